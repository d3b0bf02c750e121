/- NdC, NdQ, NlA, NdF in one text. Conditions: as each part says. -/
import Derived.Test.YtpanoplcamdnkaaGreatDoorNod1
import Derived.Test.YtpanoplcamdnkaaGreatDoorNdB
import Derived.Test.YtpanoplcamdnkaaGreatDoorRcx1
import Derived.Test.YtpanoplcamdnkaaGreatDoorCut1
import Derived.Test.YtpanoplcamdnkaaGreatDoorOpn1
/- Nodes in memory: walk of Put. Condition: the sentinels that are read lie as named (SomeS). -/
namespace Go.Proofs.YtpanoplcamdnkaaGreatDoor
open Go.RowKit Go.Lib Go.Maps Go.WideMaps

def PutNPost (a : Nat → Addr) (n fm bm : Nat) (F : FL) (B : BL) (nm s : Bytes) (w : World) (e : Ending) (w' : World) : Prop :=
  ∃ r f', e = .returned (.tuple #[.int .i64 (putN nm s (plainNode F B)).2.1, r]) ∧ ES a r (putN nm s (plainNode F B)).2.2 ∧ Node n (putN nm s (plainNode F B)).1 f' w' ∧ FrS (nodeFoot n fm bm F B).S w w' ∧ (nodeFoot n fm bm F B).new f' w.heap.size
theorem putN_bad {a : Nat → Addr} {n fm bm : Nat} {F : FL} {B : BL} {nm s : Bytes} {w w' : World} {c : Int} {r : Value} (h : ONode n fm bm F B w) (hp : putN nm s (plainNode F B) = (plainNode F B, 0, c)) (hr : ES a r c) (hb : Below w.heap.size w w') :
    PutNPost a n fm bm F B nm s w (.returned (.tuple #[.int .i64 0, r])) w' :=
  ⟨r, _, by rw [hp], by rw [hp]; exact hr, by rw [hp]; exact (h.below hb).node, FrS.of_below hb, Foot.new_refl _ _⟩
theorem putN_name {nm s : Bytes} {P : PNode} (h : isName nm = false) : putN nm s P = (P, 0, 4) := if_pos h
theorem putN_long {nm s : Bytes} {P : PNode} (h : isName nm = true) (h2 : 4000 < s.length) : putN nm s P = (P, 0, 2) := (if_neg (by rw [h]; decide)).trans (if_pos h2)
theorem putN_exist {nm s : Bytes} {P : PNode} (h : isName nm = true) (h2 : ¬ 4000 < s.length) (h3 : (alGet P.files nm).isSome = true) : putN nm s P = (P, 0, 6) := (if_neg (by rw [h]; decide)).trans ((if_neg h2).trans (if_pos h3))
theorem putN_full {nm s : Bytes} {P : PNode} (h : isName nm = true) (h2 : ¬ 4000 < s.length) (h3 : ¬ (alGet P.files nm).isSome = true) (h4 : 30 ≤ P.files.length) : putN nm s P = (P, 0, 7) := (if_neg (by rw [h]; decide)).trans ((if_neg h2).trans ((if_neg h3).trans (if_pos h4)))
theorem putN_main {nm s : Bytes} {P : PNode} (h : isName nm = true) (h2 : ¬ 4000 < s.length) (h3 : ¬ (alGet P.files nm).isSome = true) (h4 : ¬ 30 ≤ P.files.length) {L : HldL} {f c : Int} (hp : putAll (pieces s) (binN P (repOf (idsOf s))) 0 = (L, f, c)) :
    putN nm s P = if c = 0 then (⟨alPut bytesBefore nm (rcpOf nm s) P.files, alPut lesser (repOf (idsOf s)) L P.bins⟩, f, 0) else (P, 0, c) := by
  refine (if_neg (by rw [h]; decide)).trans ((if_neg h2).trans ((if_neg h3).trans ((if_neg h4).trans ?_)))
  rw [hp]
theorem putAll_next {p : Bytes} {r : List Bytes} {L L' : HldL} {f : Int} {x : Idn} {q : Bool} {c : Int} (h : putB p L = (L', x, q, c)) : putAll (p :: r) L f = if c = 0 then putAll r L' (f + if q then (p.length : Int) else 0) else (L', 0, c) := by
  rw [putAll, h]
theorem putB_ok_bin {p : Bytes} {L L' : HldL} {x : Idn} {q : Bool} {n : Int} (hn : 0 ≤ n) (hb : BinOk n L) (hl : L.length ≤ 250) (h : putB p L = (L', x, q, 0)) : BinOk (n + 1) L' ∧ L'.length ≤ 250 := by
  have h1 := binOk_put hn hb p
  have h2 := length_put (s := p) hb.srt hl
  rw [h] at h1 h2
  exact ⟨h1, h2⟩
def rcpAggN (nm s : Bytes) (sl : Value) : Value := .agg #[VT nm, .int .i64 (s.length : Int), .int .u32 (prOf s : Int), sl]
set_option maxRecDepth 100000 in
set_option maxHeartbeats 1000000 in
theorem NdPut_bad (a : Nat → Addr) (n fm bm : Nat) (F : FL) (B : BL) (nm s : Bytes) (hn : StrOk nm) (hc : (ofRes nm s).1 ≠ 0) (hp : putN nm s (plainNode F B) = (plainNode F B, 0, (ofRes nm s).1)) (w : World) (h : ONode n fm bm F B w) (hs : SomeS [1, 3, 5, 6, 9] a w) :
    Calls Tryz.prog 12 #[.pointer (some ⟨n, 0, none⟩), .string (bs nm), .string (bs s)] w (PutNPost a n fm bm F B nm s w) := by
  have hnz : (bs nm).size ≤ maxLen := by rw [bs_size]; exact hn
  have hof := RcOf_es a (bs nm) (bs s) hnz w (hs.sub (js := [1, 3]) (by decide))
  rw [bs_toList, bs_toList] at hof
  have HOF := Lib.hid hof
  have HC := Lib.hid hc
  have HBAD := Lib.hid (fun w' r (hr : ES a r (ofRes nm s).1) (hb : Below w.heap.size w w') => putN_bad h hp hr hb)
  clear hof hc hp h hs
  go_enter Tryz.func12, Tryz.ntmps12
  go_wp2_with fail
  refine HOF.out.mono ?_
  rintro e w1 ⟨v1, r1, rfl, hev, ⟨sl, rfl, hsl⟩, hb1⟩
  obtain ⟨ty, pv, rfl⟩ := hev.some HC.out
  obtain ⟨SA, sc, rfl⟩ : ∃ A c, sl = .slice A (ofRes nm s).2.ids.length c := by obtain ⟨A, c, h, _⟩ := hsl; exact ⟨A, c, h⟩
  have HEV := Lib.hid hev
  have HB1 := Lib.hid hb1
  clear hev hsl hb1
  go_wp2
  go_ret2
  exact HBAD.out _ _ HEV.out (HB1.out.alloc HB1.out.size _)
set_option maxRecDepth 100000 in
set_option maxHeartbeats 1000000 in
theorem NdPut_exist (a : Nat → Addr) (n fm bm : Nat) (F : FL) (B : BL) (hP : NodeOk (plainNode F B)) (nm s : Bytes) (hn : StrOk nm) (hN : isName nm = true) (h4 : ¬ 4000 < s.length) (fe : FE) (hgf : alGet F nm = some fe) (SB : Option Addr) (sb : Nat) (hsl0 : fe.sl = .slice SB fe.r.ids.length sb) (w : World) (h : ONode n fm bm F B w) (hs : SomeS [1, 3, 5, 6, 9] a w) :
    Calls Tryz.prog 12 #[.pointer (some ⟨n, 0, none⟩), .string (bs nm), .string (bs s)] w (PutNPost a n fm bm F B nm s w) := by
  have hnz : (bs nm).size ≤ maxLen := by rw [bs_size]; exact hn
  have hof := RcOf_es a (bs nm) (bs s) hnz w (hs.sub (js := [1, 3]) (by decide))
  rw [bs_toList, bs_toList] at hof
  rw [show ofRes nm s = (0, rcpOf nm s) from (if_neg (by rw [hN]; decide)).trans (if_neg h4)] at hof
  have HOF := Lib.hid hof
  have LK := fun w' (h' : ONode n fm bm F B w') => h'.files.look strRd (h.keysF hP) Tryz.underlying102 (zeroFE w') hn
  rw [hgf] at LK
  simp only [Option.map_some, Option.getD_some, Option.isSome_some] at LK
  have HLK := Lib.hid LK
  have HLN := Lib.hid (fun w' (h' : ONode n fm bm F B w') => h'.files.size Tryz.underlying102 3)
  have hp := putN_exist hN h4 (P := plainNode F B) (by show (alGet (alMap FE.r F) nm).isSome = true; rw [alGet_map, hgf]; rfl)
  have HBAD := Lib.hid (fun w' r (hr : ES a r 6) (hb : Below w.heap.size w w') => putN_bad h hp hr hb)
  have HN := Lib.hid h
  have HS := Lib.hid hs
  clear hof h hs LK hgf hp hP
  go_enter Tryz.func12, Tryz.ntmps12
  go_wp2_with fail
  refine HOF.out.mono ?_
  rintro e w1 ⟨v1, r1, rfl, hev, ⟨sl, rfl, hsl⟩, hb1⟩
  obtain ⟨rfl, _⟩ := hev.nil rfl
  obtain ⟨SA, sc, rfl⟩ : ∃ A c, sl = .slice A (rcpOf nm s).ids.length c := by obtain ⟨A, c, h, _⟩ := hsl; exact ⟨A, c, h⟩
  have hbx : Below w1.heap.size w1 (w1.alloc (.cells #[VT (rcpOf nm s).name, .int .i64 (rcpOf nm s).len, .int .u32 ((rcpOf nm s).print : Int), .slice SA (rcpOf nm s).ids.length sc] 65)) := (Below.refl _ _).alloc (Nat.le_refl _) _
  have HB2 := Lib.hid (hb1.trans (hbx.mono hb1.size))
  have HN2 := Lib.hid (HN.out.below HB2.out)
  have c0 := HN2.out.c0
  have lk := HLK.out _ HN2.out
  clear hev hsl hb1 hbx
  unfold feV at lk
  rw [hsl0] at lk
  have hz2 := HB2.out.size
  have hb3 : Below (w1.alloc (.cells #[VT (rcpOf nm s).name, .int .i64 (rcpOf nm s).len, .int .u32 ((rcpOf nm s).print : Int), .slice SA (rcpOf nm s).ids.length sc] 65)).heap.size (w1.alloc (.cells #[VT (rcpOf nm s).name, .int .i64 (rcpOf nm s).len, .int .u32 ((rcpOf nm s).print : Int), .slice SA (rcpOf nm s).ids.length sc] 65)) ((w1.alloc (.cells #[VT (rcpOf nm s).name, .int .i64 (rcpOf nm s).len, .int .u32 ((rcpOf nm s).print : Int), .slice SA (rcpOf nm s).ids.length sc] 65)).alloc (.cells #[VT fe.r.name, .int .i64 fe.r.len, .int .u32 (fe.r.print : Int), .slice SB fe.r.ids.length sb] 65)) := (Below.refl _ _).alloc (Nat.le_refl _) _
  have HB3 := Lib.hid (HB2.out.trans (hb3.mono hz2))
  have s5 : ((w1.alloc (.cells #[VT (rcpOf nm s).name, .int .i64 (rcpOf nm s).len, .int .u32 ((rcpOf nm s).print : Int), .slice SA (rcpOf nm s).ids.length sc] 65)).alloc (.cells #[VT fe.r.name, .int .i64 fe.r.len, .int .u32 (fe.r.print : Int), .slice SB fe.r.ids.length sb] 65)).cell? ⟨0, 0, none⟩ = some (sval a 5) := (HS.out.below HB3.out) 5 (by simp)
  unfold sval at s5
  clear hb3
  go_wp2
  go_quiet (fail)
  go_wp2
  go_ret2
  exact HBAD.out _ _ (ES.sent a 5 (by decide)) (below_drewN HB3.out _)
set_option maxRecDepth 100000 in
set_option maxHeartbeats 1000000 in
theorem NdPut_full (a : Nat → Addr) (n fm bm : Nat) (F : FL) (B : BL) (hP : NodeOk (plainNode F B)) (nm s : Bytes) (hn : StrOk nm) (hN : isName nm = true) (h4 : ¬ 4000 < s.length) (hgf : alGet F nm = none) (h30 : 30 ≤ F.length) (w : World) (h : ONode n fm bm F B w) (hs : SomeS [1, 3, 5, 6, 9] a w) :
    Calls Tryz.prog 12 #[.pointer (some ⟨n, 0, none⟩), .string (bs nm), .string (bs s)] w (PutNPost a n fm bm F B nm s w) := by
  have hnz : (bs nm).size ≤ maxLen := by rw [bs_size]; exact hn
  have hof := RcOf_es a (bs nm) (bs s) hnz w (hs.sub (js := [1, 3]) (by decide))
  rw [bs_toList, bs_toList] at hof
  rw [show ofRes nm s = (0, rcpOf nm s) from (if_neg (by rw [hN]; decide)).trans (if_neg h4)] at hof
  have HOF := Lib.hid hof
  have LK := fun w' (h' : ONode n fm bm F B w') => h'.files.look strRd (h.keysF hP) Tryz.underlying102 (zeroFE w') hn
  rw [hgf] at LK
  simp only [Option.map_none, Option.getD_none, Option.isSome_none] at LK
  have HLK := Lib.hid LK
  have HLN := Lib.hid (fun w' (h' : ONode n fm bm F B w') => h'.files.size Tryz.underlying102 3)
  have hp := putN_full hN h4 (P := plainNode F B) (by show ¬ (alGet (alMap FE.r F) nm).isSome = true; rw [alGet_map, hgf]; decide) (by show 30 ≤ (alMap FE.r F).length; rw [alMap_length]; exact h30)
  have HBAD := Lib.hid (fun w' r (hr : ES a r 7) (hb : Below w.heap.size w w') => putN_bad h hp hr hb)
  have HN := Lib.hid h
  have HS := Lib.hid hs
  have h30i : (F.length : Int) ≥ 30 := by omega
  clear hof h hs LK hgf hp hP
  go_enter Tryz.func12, Tryz.ntmps12
  go_wp2_with fail
  refine HOF.out.mono ?_
  rintro e w1 ⟨v1, r1, rfl, hev, ⟨sl, rfl, hsl⟩, hb1⟩
  obtain ⟨rfl, _⟩ := hev.nil rfl
  obtain ⟨SA, sc, rfl⟩ : ∃ A c, sl = .slice A (rcpOf nm s).ids.length c := by obtain ⟨A, c, h, _⟩ := hsl; exact ⟨A, c, h⟩
  have hbx : Below w1.heap.size w1 (w1.alloc (.cells #[VT (rcpOf nm s).name, .int .i64 (rcpOf nm s).len, .int .u32 ((rcpOf nm s).print : Int), .slice SA (rcpOf nm s).ids.length sc] 65)) := (Below.refl _ _).alloc (Nat.le_refl _) _
  have HB2 := Lib.hid (hb1.trans (hbx.mono hb1.size))
  have HN2 := Lib.hid (HN.out.below HB2.out)
  have c0 := HN2.out.c0
  have lk := HLK.out _ HN2.out
  clear hev hsl hb1 hbx
  have hz2 := HB2.out.size
  have hb3 : Below (w1.alloc (.cells #[VT (rcpOf nm s).name, .int .i64 (rcpOf nm s).len, .int .u32 ((rcpOf nm s).print : Int), .slice SA (rcpOf nm s).ids.length sc] 65)).heap.size (w1.alloc (.cells #[VT (rcpOf nm s).name, .int .i64 (rcpOf nm s).len, .int .u32 ((rcpOf nm s).print : Int), .slice SA (rcpOf nm s).ids.length sc] 65)) ((w1.alloc (.cells #[VT (rcpOf nm s).name, .int .i64 (rcpOf nm s).len, .int .u32 ((rcpOf nm s).print : Int), .slice SA (rcpOf nm s).ids.length sc] 65)).alloc (.cells #[.string ByteArray.empty, .int .i64 0, .int .u32 0, .slice none 0 0] 65)) := (Below.refl _ _).alloc (Nat.le_refl _) _
  have HB3 := Lib.hid (HB2.out.trans (hb3.mono hz2))
  have HN3 := Lib.hid (HN.out.below HB3.out)
  have c0' := HN3.out.c0
  have ln := HLN.out _ HN3.out
  have s6 : ((w1.alloc (.cells #[VT (rcpOf nm s).name, .int .i64 (rcpOf nm s).len, .int .u32 ((rcpOf nm s).print : Int), .slice SA (rcpOf nm s).ids.length sc] 65)).alloc (.cells #[.string ByteArray.empty, .int .i64 0, .int .u32 0, .slice none 0 0] 65)).cell? ⟨1, 0, none⟩ = some (sval a 6) := (HS.out.below HB3.out) 6 (by simp)
  unfold sval at s6
  clear hb3
  go_wp2
  go_quiet (fail)
  go_wp2
  go_ret2
  exact HBAD.out _ _ (ES.sent a 6 (by decide)) (below_drewN HB3.out _)
set_option maxRecDepth 100000 in
set_option maxHeartbeats 8000000 in
theorem NdPut_main (a : Nat → Addr) (n fm bm : Nat) (F : FL) (B : BL) (hP : NodeOk (plainNode F B)) (nm s : Bytes) (hn : StrOk nm) (hN : isName nm = true) (h4 : ¬ 4000 < s.length) (hgf : alGet F nm = none) (h30 : ¬ 30 ≤ F.length) (w : World) (h : ONode n fm bm F B w) (hs : SomeS [1, 3, 5, 6, 9] a w) :
    Calls Tryz.prog 12 #[.pointer (some ⟨n, 0, none⟩), .string (bs nm), .string (bs s)] w (PutNPost a n fm bm F B nm s w) := by
  have hnz : (bs nm).size ≤ maxLen := by rw [bs_size]; exact hn
  have hof := RcOf_es a (bs nm) (bs s) hnz w (hs.sub (js := [1, 3]) (by decide))
  rw [bs_toList, bs_toList] at hof
  rw [show ofRes nm s = (0, rcpOf nm s) from (if_neg (by rw [hN]; decide)).trans (if_neg h4)] at hof
  have HOF := Lib.hid hof
  have LK := fun w' (h' : ONode n fm bm F B w') => h'.files.look strRd (h.keysF hP) Tryz.underlying102 (zeroFE w') hn
  rw [hgf] at LK
  simp only [Option.map_none, Option.getD_none, Option.isSome_none] at LK
  have HLK := Lib.hid LK
  have HLN := Lib.hid (fun w' (h' : ONode n fm bm F B w') => h'.files.size Tryz.underlying102 3)
  have hpm := fun L f c hp => putN_main (nm := nm) (s := s) (P := plainNode F B) hN h4 (by show ¬ (alGet (alMap FE.r F) nm).isSome = true; rw [alGet_map, hgf]; decide) (by show ¬ 30 ≤ (alMap FE.r F).length; rw [alMap_length]; exact h30) (L := L) (f := f) (c := c) hp
  have HXO' := rep_ok0 s
  have hrid : repOf (rcpOf nm s).ids = repOf (idsOf s) := rfl
  have hidl : (rcpOf nm s).ids.length ≤ 250 := idsOf_le (by omega)
  have HPL : Hid (∀ p ∈ pieces s, p.length ≤ 64) := Lib.hid (fun p hp => pieces_max s p hp)
  have hpl : (pieces s).length ≤ 250 := by have := idsOf_le (s := s) (by omega); unfold idsOf at this; rw [List.length_map] at this; exact this
  have LKB0 := fun w' (h' : ONode n fm bm F B w') => h'.bins.at idRd (h.keysB hP) Tryz.underlying103 (zeroBE w') HXO'.1
  generalize hX : repOf (idsOf s) = X at *
  have HXO := Lib.hid HXO'
  have HPM := Lib.hid hpm
  have HN := Lib.hid h
  have HS := Lib.hid hs
  have HP := Lib.hid hP
  have HNM := Lib.hid hn
  have HLB0 := Lib.hid LKB0
  have HRID := Lib.hid hrid
  have h30i : ¬ (F.length : Int) ≥ 30 := by omega
  clear hof h hs LK hP hpm hX hrid LKB0 HXO'
  go_enter Tryz.func12, Tryz.ntmps12
  go_wp2_with fail
  refine HOF.out.mono ?_
  rintro e w1 ⟨v1, r1, rfl, hev, ⟨sl, rfl, hsl⟩, hb1⟩
  obtain ⟨rfl, _⟩ := hev.nil rfl
  obtain ⟨SA, sc, rfl⟩ : ∃ A c, sl = .slice A (rcpOf nm s).ids.length c := by obtain ⟨A, c, h, _⟩ := hsl; exact ⟨A, c, h⟩
  have hbx : Below w1.heap.size w1 (w1.alloc (.cells #[VT (rcpOf nm s).name, .int .i64 (rcpOf nm s).len, .int .u32 ((rcpOf nm s).print : Int), .slice SA (rcpOf nm s).ids.length sc] 65)) := (Below.refl _ _).alloc (Nat.le_refl _) _
  have hbz : Below w1.heap.size w1 ((w1.alloc (.cells #[VT (rcpOf nm s).name, .int .i64 (rcpOf nm s).len, .int .u32 ((rcpOf nm s).print : Int), .slice SA (rcpOf nm s).ids.length sc] 65)).alloc (.cells #[.string ByteArray.empty, .int .i64 0, .int .u32 0, .slice none 0 0] 65)) := hbx.alloc hbx.size _
  have HB2 := Lib.hid (hb1.trans (hbx.mono hb1.size))
  have HB3 := Lib.hid (hb1.trans (hbz.mono hb1.size))
  have HN2 := Lib.hid (HN.out.below HB2.out)
  have HN3 := Lib.hid (HN.out.below HB3.out)
  have HX3 := Lib.hid ((Box4.mk' w1 (VT (rcpOf nm s).name) (.int .i64 (rcpOf nm s).len) (.int .u32 ((rcpOf nm s).print : Int)) (.slice SA (rcpOf nm s).ids.length sc) 65).below ((Below.refl (w1.alloc (.cells #[VT (rcpOf nm s).name, .int .i64 (rcpOf nm s).len, .int .u32 ((rcpOf nm s).print : Int), .slice SA (rcpOf nm s).ids.length sc] 65)).heap.size (w1.alloc (.cells #[VT (rcpOf nm s).name, .int .i64 (rcpOf nm s).len, .int .u32 ((rcpOf nm s).print : Int), .slice SA (rcpOf nm s).ids.length sc] 65))).alloc (Nat.le_refl _) (.cells #[.string ByteArray.empty, .int .i64 0, .int .u32 0, .slice none 0 0] 65)) (by simp))
  have HR3 := Lib.hid (hsl.below hbz (Nat.le_refl _))
  have hz13 := hbz.size
  have c0 := HN2.out.c0
  have lk := HLK.out _ HN2.out
  have c0' := HN3.out.c0
  have ln := HLN.out _ HN3.out
  have hw1 := hb1.size
  obtain ⟨e0, e1, e2, e3, _⟩ := HX3.out
  have HREP := Lib.hid (RcRep_any (.agg #[VT (rcpOf nm s).name, .int .i64 (rcpOf nm s).len, .int .u32 ((rcpOf nm s).print : Int), .slice SA (rcpOf nm s).ids.length sc]) (rcpOf nm s) (by omega) ((w1.alloc (.cells #[VT (rcpOf nm s).name, .int .i64 (rcpOf nm s).len, .int .u32 ((rcpOf nm s).print : Int), .slice SA (rcpOf nm s).ids.length sc] 65)).alloc (.cells #[.string ByteArray.empty, .int .i64 0, .int .u32 0, .slice none 0 0] 65)) ⟨_, rfl, HR3.out.rd.more hz13⟩)
  rw [HRID.out] at HREP
  clear hev hsl hb1 hbx hbz
  go_wp2_with fail
  refine HREP.out.mono ?_
  rintro e w4 ⟨rfl, hb4⟩
  have hz4 := hb4.size
  have HX4 := Lib.hid (HX3.out.below hb4 HX3.out.lt)
  have HB4 := Lib.hid (HB3.out.trans (hb4.mono HB3.out.size))
  have HR4 := Lib.hid (HR3.out.below hb4 hz13)
  have hw14 : w1.heap.size < w4.heap.size := HX4.out.lt
  have hb5 : Below w4.heap.size w4 (w4.alloc (.cells #[.int .u32 (X.1 : Int), .int .i64 X.2] 47)) := (Below.refl _ _).alloc (Nat.le_refl _) _
  have HX5 := Lib.hid (HX4.out.below hb5 HX4.out.lt)
  have HB5 := Lib.hid (HB4.out.trans (hb5.mono HB4.out.size))
  have HR5 := Lib.hid (HR4.out.below hb5 (Nat.le_of_lt hw14))
  have HY5 := Lib.hid (Box2.mk' w4 (.int .u32 (X.1 : Int)) (.int .i64 X.2) 47)
  have HZ5 : Hid ((w4.alloc (.cells #[.int .u32 (X.1 : Int), .int .i64 X.2] 47)).heap.size = w4.heap.size + 1) := Lib.hid (by simp)
  clear hb4 hb5 e0 e1 e2 e3 c0 lk c0' ln hz13 hz4 HX3 HB3 HR3 HN2 HN3 HX4 HB4 HR4 HREP
  go_wp2_with fail
  refine (BnNew_any _).mono ?_
  rintro e w6 ⟨b0, mb0, rfl, ho0, hb0, hmb0, hb6⟩
  rw [HZ5.out] at hb0 hmb0
  have hz5 := HZ5.out
  have HX6 := Lib.hid (HX5.out.below hb6 HX5.out.lt)
  have HY6 := Lib.hid (HY5.out.below hb6 HY5.out.lt)
  have HB6 := Lib.hid (HB5.out.trans (hb6.mono HB5.out.size))
  have HN6 := Lib.hid (HN.out.below HB6.out)
  have HR6 := Lib.hid (HR5.out.below hb6 (by omega))
  have HO6 := Lib.hid ho0
  have hz6 : w4.heap.size + 1 ≤ w6.heap.size := by have := hb6.size; omega
  clear ho0 hb6 HX5 HY5 HB5 HR5 hz5 HZ5
  cases hgb : alGet B X with
  | none =>
    have hpk : binN (plainNode F B) X = [] := by
      show (alGet (alMap BE.L B) X).getD [] = []
      rw [alGet_map, hgb]; rfl
    have hlb := HLB0.out
    rw [hgb] at hlb
    simp only [Option.map_none, Option.getD_none] at hlb
    have HLB := Lib.hid hlb
    clear hlb HLB0
    go_wp2
    have hS0 : Below w6.heap.size w6 w6.drew := (Below.refl _ _).drew
    refine region_S (fun w' => Below w6.heap.size w6 w') 6 (by kernel_rfl) (by kernel_rfl) ?_
    refine take_S 0 rfl (by kernel_rfl) (by kernel_rfl) hS0 (fun w' hS => by go_simp; rfl) ?_
    refine take_S 1 rfl (by kernel_rfl) (by kernel_rfl) hS0 (fun w' hS => by go_simp; rfl) ?_
    refine take_S 2 rfl (by kernel_rfl) (by kernel_rfl) hS0 (fun w' hS => by go_simp; rfl) ?_
    refine take_S 3 rfl (by kernel_rfl) (by kernel_rfl) hS0 (fun w' hS => by have A0 := (HN6.out.below hS).c1; go_simp; rfl) ?_
    refine take_S 4 rfl (by kernel_rfl) (by kernel_rfl) hS0 (fun w' hS => by have A0 := (HY6.out.below hS HY6.out.lt).c0; have A1 := (HY6.out.below hS HY6.out.lt).c1; go_simp; rfl) ?_
    refine take_S 5 rfl (by kernel_rfl) (by kernel_rfl) hS0 (fun w' hS => by have A0 := HLB.out w' (HN6.out.below hS); go_simp; rfl) (forced_S (by kernel_rfl) ?_)
    try simp only [Act.put, List.getElem_toArray, List.getElem_cons_succ, List.getElem_cons_zero, List.setIfInBounds_toArray, List.set_cons_zero, List.set_cons_succ]
    simp only [List.drop_succ_cons, List.drop_zero]
    have HXv := Lib.hid (HX6.out.below hS0 HX6.out.lt)
    have HYv := Lib.hid (HY6.out.below hS0 HY6.out.lt)
    have HBv := Lib.hid (HB6.out.trans (hS0.mono HB6.out.size))
    have HRv := Lib.hid (HR6.out.below hS0 (by omega))
    have HOv := Lib.hid (HO6.out.below hS0)
    have hzv : w6.heap.size ≤ w6.drew.heap.size := hS0.size
    generalize w6.drew = wv at *
    have HNE : Hid (w1.heap.size ≠ mb0 ∧ w4.heap.size ≠ mb0 ∧ w.heap.size ≤ b0 ∧ w.heap.size ≤ mb0 ∧ w1.heap.size ≤ mb0 ∧ w1.heap.size ≤ wv.heap.size ∧ True ∧ w1.heap.size ≤ wv.heap.size) := Lib.hid ⟨by omega, by omega, by omega, by omega, by omega, by omega, trivial, by omega⟩
    clear hS0 HX6 HY6 HB6 HN6 HR6 HO6 hb0 hmb0 hgb HLB
    go_wp2_with fail
    have HPK := Lib.hid (hpk : binN (plainNode F B) X = ([] : HldL))
    have HBK0 : Hid (BinOk 7500 ([] : HldL) ∧ ([] : HldL).length ≤ 250) := Lib.hid (by rw [← hpk]; exact ⟨(HP.out.theBin X).1, (HP.out.theBin X).2.1⟩)
    clear hpk
    refine (Pieces_any (bs s) (by rw [bs_size]; omega) wv).mono ?_
    rintro e w7 ⟨v7, rfl, ho7, hb7⟩
    rw [bs_toList] at ho7
    have HX7 := Lib.hid (HXv.out.below hb7 HXv.out.lt)
    have HY7 := Lib.hid (HYv.out.below hb7 HYv.out.lt)
    have HB7 := Lib.hid (HBv.out.trans (hb7.mono HBv.out.size))
    have HR7 := Lib.hid (HRv.out.below hb7 HNE.out.2.2.2.2.2.1)
    have HO7 := Lib.hid (HOv.out.below hb7)
    obtain ⟨A7, c7, rfl, hc7, hrd7⟩ := own_rdI ho7
    have HRD7 := Lib.hid hrd7
    have HML := Lib.hid HOv.out.map.lt
    generalize hps : pieces s = ps at *
    clear hrd7 hb7 ho7 HXv HYv HBv HRv HOv hps
    go_wp2
    go_loopg [15, 66] ps.length (fun gh v15 v66 wr => ∃ (k : Nat) (Lk : HldL) (f : Int), v15 = .int .i64 f ∧ v66 = .int .i64 k ∧ k ≤ ps.length ∧ gh = ps.length - k ∧ Hid (putAll (ps.drop k) Lk f = putAll ps ([] : HldL) 0) ∧ Hid (BinOk (7500 + k) Lk ∧ Lk.length ≤ 250) ∧ 0 ≤ f ∧ f ≤ 64 * (k : Int) ∧ Hid (OBin b0 mb0 Lk wr) ∧ Hid (w7.grownBy wr (some mb0)))
    case atStart => exact ⟨0, ([] : HldL), 0, rfl, rfl, Nat.zero_le _, rfl, Lib.hid (by rw [List.drop_zero]), Lib.hid ⟨by simpa using HBK0.out.1, HBK0.out.2⟩, Int.le_refl _, by omega, HO7, Lib.hid ⟨rfl, rfl, rfl, Nat.le_refl _, fun _ _ _ => rfl⟩⟩
    case round =>
      obtain ⟨k, Lk, f, rfl, rfl, hk, hgm, HPA, HBK, hf0, hf1, HOK, HGB⟩ := hrel
      have HBr : Hid (Below w.heap.size w wr) := Lib.hid (gb_toBelow HB7.out HB7.out.size HNE.out.2.2.2.1 HGB.out)
      by_cases hkl : k < ps.length
      · obtain ⟨g, rfl, hg1, hg2, hcell⟩ := HRD7.out (by omega)
        have hgne : some g ≠ some mb0 := by intro e; injection e with e; have := HML.out; omega
        have hd0 : w7.cell? ⟨g, k, none⟩ = some (.string (bs ps[k])) := hcell k _ (by simp [hkl])
        have d1 : wr.cell? ⟨g, k, none⟩ = some (.string (bs ps[k])) := (HGB.out.cell_far ⟨g, k, none⟩ hg2 hgne).trans hd0
        have b1 : (0 : Int) ≤ (k : Int) := by omega
        have b2 : (k : Int) < (ps.length : Int) := by omega
        have hp64 := HPL.out ps[k] (List.getElem_mem hkl)
        have HPUT := Lib.hid (BnPut_any a b0 mb0 Lk (7500 + k) (by omega) HBK.out.1 (by have := HBK.out.2; omega) ps[k] (by omega) wr HOK.out ((HS.out.below HBr.out).sub (js := [1, 6, 9]) (by decide)))
        unfold PutPost at HPUT
        have hpa := HPA.out
        rw [List.drop_eq_getElem_cons hkl] at hpa
        generalize ps[k] = p at *
        cases hpb : putB p Lk with | mk L' tl =>
        obtain ⟨x', q', c'⟩ := tl
        rw [putAll_next hpb] at hpa
        rw [hpb] at HPUT
        simp only at HPUT
        have HPA' := Lib.hid hpa
        have HNX := Lib.hid (fun (h : c' = 0) => putB_ok_bin (n := 7500 + k) (by omega) HBK.out.1 HBK.out.2 (by rw [hpb, h] : putB p Lk = (L', x', q', 0)))
        clear hcell hd0 hpa hpb HPA
        go_wp2_with fail
        refine HPUT.out.mono ?_
        rintro e w8 ⟨r8, rfl, hes, ho8, hg8⟩
        have hba : Below w8.heap.size w8 (w8.alloc (.cells #[.int .u32 (x'.1 : Int), .int .i64 x'.2] 47)) := (Below.refl _ _).alloc (Nat.le_refl _) _
        have HO8 := Lib.hid (ho8.below hba)
        have HG8 := Lib.hid (gb_below (HGB.out.trans hg8) hba)
        have HES := Lib.hid hes
        clear ho8 hg8 hba HPUT d1
        by_cases hc : c' = 0
        · subst hc
          obtain ⟨rfl, _⟩ := HES.out.nil rfl
          have HBN := Lib.hid (HNX.out rfl)
          rw [if_pos rfl] at HPA'
          have hkn : (7500 : Int) + (k : Int) + 1 = 7500 + ((k + 1 : Nat) : Int) := by omega
          rw [hkn] at HBN
          clear hes HNX hkn
          cases q' with
          | true =>
            rw [if_pos rfl] at HPA'
            have hpz : (0 : Int) ≤ ((bs p).size : Int) ∧ ((bs p).size : Int) ≤ 64 := by rw [bs_size]; omega
            obtain ⟨hpz0, hpz1⟩ := hpz
            go_wp2
            go_roundg (ps.length - (k + 1))
            case measure => omega
            case rel => exact ⟨k + 1, L', f + (p.length : Int), by rw [bs_size], by go_num, hkl, rfl, HPA', HBN, by omega, by omega, HO8, HG8⟩
          | false =>
            rw [if_neg (by decide), Int.add_zero] at HPA'
            go_wp2
            go_roundg (ps.length - (k + 1))
            case measure => omega
            case rel => exact ⟨k + 1, L', f, rfl, by go_num, hkl, rfl, HPA', HBN, hf0, by omega, HO8, HG8⟩
        · rw [if_neg hc] at HPA'
          obtain ⟨ty, pv, rfl⟩ := HES.out.some hc
          have HBAD := Lib.hid (fun w' (hb : Below w.heap.size w w') => putN_bad HN.out (by have := HPM.out L' 0 c' (by rw [HPK.out]; exact HPA'.out.symm); rw [if_neg hc] at this; exact this) HES.out hb)
          clear hes hc HNX
          go_wp2
          go_ret2
          exact HBAD.out _ (gb_toBelow HB7.out HB7.out.size HNE.out.2.2.2.1 HG8.out)
      · obtain rfl : k = ps.length := by omega
        have hpa : putAll ps ([] : HldL) 0 = (Lk, f, 0) := by rw [← HPA.out, List.drop_length]; rfl
        have hpn := HPM.out Lk f 0 (by rw [HPK.out]; exact hpa)
        rw [if_pos rfl] at hpn
        have HPN := Lib.hid hpn
        have hnr := HN.out.below HBr.out
        have c0 := hnr.c0
        have c1 := hnr.c1
        obtain ⟨e0, e1, e2, e3, _⟩ := gb_box4 HGB.out (by intro e; injection e with e; exact HNE.out.1 e) HX7.out
        obtain ⟨y0, y1, _, _⟩ := gb_box2 HGB.out HNE.out.2.1 HY7.out
        have hrr : RdB wr w.heap.size w1.heap.size (.slice SA (rcpOf nm s).ids.length sc) (rcpOf nm s).ids := HR7.out.keep (fun q h1 h2 => HGB.out.cell_far q (Nat.lt_trans h2 HX7.out.lt) (by intro e; injection e with e; have := HNE.out.2.2.2.2.1; omega)) (Nat.le_refl _) (Nat.le_refl _)
        have hnd : ONode n fm bm F B wr.drew := hnr.below (Below.refl _ _).drew
        have hsF := ONode.srtF HP.out
        have hsB := ONode.srtB HP.out
        obtain ⟨v0, st, wa, wb, h1, h2, h3, h4', h5, h6, h7⟩ := AlMap.entry strRd klStr hnd.files hsF (hnd.keysF HP.out) Tryz.underlying102 zeroFE (by unfold maxLen; omega) nm ⟨rcpOf nm s, .slice SA (rcpOf nm s).ids.length sc⟩ HNM.out
        have hwz : wr.heap.size ≤ wb.heap.size := by rw [h7]; exact Nat.le_refl _
        have hA : ONode n fm bm (alPut bytesBefore nm ⟨rcpOf nm s, .slice SA (rcpOf nm s).ids.length sc⟩ F) B wb := hnd.setF h6 h5 h4' (fun q hq => by
          rcases alPut_mem hq with rfl | hq
          · exact .inr (((hrr.rd).stay h5).more (Nat.le_trans (Nat.le_of_lt HX7.out.lt) (Nat.le_trans HGB.out.size hwz)))
          · exact .inl hq)
        obtain ⟨v1, st2, wc, wd, k1, k2, k3, k4, k5, k6, k7⟩ := AlMap.entry idRd klId hA.bins hsB (hnd.keysB HP.out) Tryz.underlying103 zeroBE (by have := HP.out.blenF; unfold maxLen; omega) X ⟨Lk, b0, mb0⟩ HXO.out
        have hOb : OBin b0 mb0 Lk wb := by
          have hor := HOK.out.below (Below.refl wr.heap.size wr).drew
          have hfm : fm < w.heap.size := HN.out.files.blt
          exact hor.grown h6 (by intro e; injection e with e; have := HNE.out.2.2.1; omega) (by intro e; injection e with e; have := HNE.out.2.2.2.1; omega)
        have hnew : mb0 ∉ B.map (fun q => q.2.mb) := fun hm => by
          obtain ⟨q, hq, e⟩ := List.mem_map.1 hm
          have := (HN.out.bin q hq).map.lt
          have := HNE.out.2.2.2.1
          omega
        have hnd0 := HN.out.nd
        rw [List.nodup_cons, List.nodup_cons] at hnd0
        have hND : (fm :: bm :: (alPut lesser X ⟨Lk, b0, mb0⟩ B).map (fun q => q.2.mb)).Nodup := by
          have hfm : fm < w.heap.size := HN.out.files.blt
          have hbm : bm < w.heap.size := HN.out.bins.blt
          have hmb := HNE.out.2.2.2.1
          rw [List.nodup_cons, List.nodup_cons]
          refine ⟨fun hm => ?_, fun hm => ?_, alPut_map_nodup (fun q : BE => q.mb) hnd0.2.2 hnew⟩
          · rcases List.mem_cons.1 hm with e | hm
            · exact hnd0.1 (List.mem_cons.2 (.inl e))
            · rcases alPut_map_mem (fun q : BE => q.mb) hm with e | e
              · simp only at e; omega
              · exact hnd0.1 (List.mem_cons_of_mem _ e)
          · rcases alPut_map_mem (fun q : BE => q.mb) hm with e | e
            · simp only at e; omega
            · exact hnd0.2.1 e
        have hD : ONode n fm bm (alPut bytesBefore nm ⟨rcpOf nm s, .slice SA (rcpOf nm s).ids.length sc⟩ F) (alPut lesser X ⟨Lk, b0, mb0⟩ B) wd := hA.setB k6 k5 k4 (fun q hq => by
          rcases alPut_mem hq with rfl | hq
          · have hbb : bm < w.heap.size := HN.out.bins.blt
            exact .inr (hOb.grown k6 (by intro e; injection e with e; have := HNE.out.2.2.1; omega) (by intro e; injection e with e; have := HNE.out.2.2.2.1; omega))
          · exact .inl hq) hND
        have HFIN : Hid (PutNPost a n fm bm F B nm s w (.returned (.tuple #[.int .i64 f, .nilIface])) wd) := Lib.hid (by
          refine ⟨.nilIface, nodeFoot n fm bm (alPut bytesBefore nm ⟨rcpOf nm s, .slice SA (rcpOf nm s).ids.length sc⟩ F) (alPut lesser X ⟨Lk, b0, mb0⟩ B), by rw [HPN.out], by rw [HPN.out]; exact ES.none a, ?_, ?_, foot_put (fe := ⟨rcpOf nm s, .slice SA (rcpOf nm s).ids.length sc⟩) (be := ⟨Lk, b0, mb0⟩) hrr.above HNE.out.2.2.1 HNE.out.2.2.2.1⟩
          · rw [HPN.out]
            have := hD.node
            unfold plainNode at this ⊢
            rw [alMap_put, alMap_put] at this
            exact this
          · exact ((FrS.of_below (S := (nodeFoot n fm bm F B).S) HBr.out).trans (FrS.of_below (S := (nodeFoot n fm bm F B).S) ((Below.refl wr.heap.size wr).drew)) (fun _ h => .inl h)).trans ((FrS.of_gb (S := (nodeFoot n fm bm F B).S) h6 (.inl rfl)).trans (FrS.of_gb (S := (nodeFoot n fm bm F B).S) k6 (.inr (.inl rfl))) (fun _ h => .inl h)) (fun _ h => .inl h))
        have hS1 : Stay wr wa := h2
        have hS2 : Stay wr wb := h5
        have hS3 : Stay wr wc := hS2.trans k2
        unfold feV at h3
        unfold beV at k3
        have hgi : ∀ z : Int, goInt z = .int .i64 z := fun _ => rfl
        rw [hgi] at h1 h3 k1 k3
        clear hgi
        clear hpa hpn hnr hrr hnd hsF hsB h4' h5 h6 h7 hwz hA k4 k5 k6 k7 hOb hnew hnd0 hND hD h2 k2
        go_wp2
        have hS0 : Stay wr wr.drew := Stay.refl _
        refine region_S (fun w' => Stay wr w') 17 (by kernel_rfl) (by kernel_rfl) ?_
        refine take_S 0 rfl (by kernel_rfl) (by kernel_rfl) hS0 (fun w' hS => by go_simp; rfl) ?_
        refine take_S 1 rfl (by kernel_rfl) (by kernel_rfl) hS0 (fun w' hS => by go_simp; rfl) ?_
        refine take_S 2 rfl (by kernel_rfl) (by kernel_rfl) hS0 (fun w' hS => by go_simp; rfl) ?_
        refine take_S 3 rfl (by kernel_rfl) (by kernel_rfl) hS0 (fun w' hS => by have A0 := hS _ _ c0; go_simp; rfl) ?_
        refine take_S 4 rfl (by kernel_rfl) (by kernel_rfl) hS0 (fun w' hS => by go_simp; rfl) ?_
        refine take_S 5 rfl (by kernel_rfl) (by kernel_rfl) hS0 (fun w' hS => by go_simp; rfl) ?_
        refine take_S 6 rfl (by kernel_rfl) (by kernel_rfl) hS0 (fun w' hS => by go_simp; rfl) ?_
        refine take_S 7 rfl (by kernel_rfl) (by kernel_rfl) hS0 (fun w' hS => by go_simp; rfl) ?_
        refine take_S 8 rfl (by kernel_rfl) (by kernel_rfl) hS0 (fun w' hS => by have A0 := hS _ _ c1; go_simp; rfl) ?_
        refine take_S 9 rfl (by kernel_rfl) (by kernel_rfl) hS0 (fun w' hS => by have A0 := hS _ _ y0; have A1 := hS _ _ y1; go_simp; rfl) ?_
        refine take_S 10 rfl (by kernel_rfl) (by kernel_rfl) hS0 (fun w' hS => by have A0 := hS _ _ e0; have A1 := hS _ _ e1; have A2 := hS _ _ e2; have A3 := hS _ _ e3; go_simp; rfl) ?_
        refine take_S 11 rfl (by kernel_rfl) (by kernel_rfl) hS0 (fun w' hS => by go_simp; rfl) ?_
        refine carry_S 12 rfl (by kernel_rfl) (by decide) (by kernel_rfl) (fun K hK => ?_)
        go_simp
        refine hK _ _ hS1 ?_
        clear hK K
        try simp only [Act.put, List.getElem_toArray, List.getElem_cons_succ, List.getElem_cons_zero, List.setIfInBounds_toArray, List.set_cons_zero, List.set_cons_succ]
        refine take_S 13 (v := .int .i64 (st : Int)) rfl (by kernel_rfl) (by kernel_rfl) hS1 (fun w' hS => by go_simp) ?_
        refine carry_S 14 rfl (by kernel_rfl) (by decide) (by kernel_rfl) (fun K hK => ?_)
        go_simp
        refine hK _ _ hS2 ?_
        clear hK K
        try simp only [Act.put, List.getElem_toArray, List.getElem_cons_succ, List.getElem_cons_zero, List.setIfInBounds_toArray, List.set_cons_zero, List.set_cons_succ]
        refine carry_S 15 rfl (by kernel_rfl) (by decide) (by kernel_rfl) (fun K hK => ?_)
        go_simp
        refine hK _ _ hS3 ?_
        clear hK K
        try simp only [Act.put, List.getElem_toArray, List.getElem_cons_succ, List.getElem_cons_zero, List.setIfInBounds_toArray, List.set_cons_zero, List.set_cons_succ]
        refine take_S 16 (v := .int .i64 (st2 : Int)) rfl (by kernel_rfl) (by kernel_rfl) hS3 (fun w' hS => by go_simp) (forced_S (by kernel_rfl) ?_)
        try simp only [Act.put, List.getElem_toArray, List.getElem_cons_succ, List.getElem_cons_zero, List.setIfInBounds_toArray, List.set_cons_zero, List.set_cons_succ]
        simp only [List.drop_succ_cons, List.drop_zero]
        go_wp2
        go_ret2
        exact HFIN.out
  | some be =>
    have hpk : binN (plainNode F B) X = be.L := by
      show (alGet (alMap BE.L B) X).getD [] = _
      rw [alGet_map, hgb]; rfl
    have hlb := HLB0.out
    rw [hgb] at hlb
    simp only [Option.map_some, Option.getD_some] at hlb
    unfold beV at hlb
    have HLB := Lib.hid hlb
    have HOB := Lib.hid (HN6.out.bin (X, be) (alGet_mem hgb))
    simp only at HOB
    clear hlb HLB0 hgb hb0 hmb0 HO6
    go_wp2
    have hS0 : Below w6.heap.size w6 w6.drew := (Below.refl _ _).drew
    refine region_S (fun w' => Below w6.heap.size w6 w') 6 (by kernel_rfl) (by kernel_rfl) ?_
    refine take_S 0 rfl (by kernel_rfl) (by kernel_rfl) hS0 (fun w' hS => by go_simp; rfl) ?_
    refine take_S 1 rfl (by kernel_rfl) (by kernel_rfl) hS0 (fun w' hS => by go_simp; rfl) ?_
    refine take_S 2 rfl (by kernel_rfl) (by kernel_rfl) hS0 (fun w' hS => by go_simp; rfl) ?_
    refine take_S 3 rfl (by kernel_rfl) (by kernel_rfl) hS0 (fun w' hS => by have A0 := (HN6.out.below hS).c1; go_simp; rfl) ?_
    refine take_S 4 rfl (by kernel_rfl) (by kernel_rfl) hS0 (fun w' hS => by have A0 := (HY6.out.below hS HY6.out.lt).c0; have A1 := (HY6.out.below hS HY6.out.lt).c1; go_simp; rfl) ?_
    refine take_S 5 rfl (by kernel_rfl) (by kernel_rfl) hS0 (fun w' hS => by have A0 := HLB.out w' (HN6.out.below hS); go_simp; rfl) (forced_S (by kernel_rfl) ?_)
    try simp only [Act.put, List.getElem_toArray, List.getElem_cons_succ, List.getElem_cons_zero, List.setIfInBounds_toArray, List.set_cons_zero, List.set_cons_succ]
    simp only [List.drop_succ_cons, List.drop_zero]
    have HOB' := Lib.hid (HOB.out.below hS0)
    have HXu := Lib.hid (HX6.out.below hS0 HX6.out.lt)
    have HYu := Lib.hid (HY6.out.below hS0 HY6.out.lt)
    have HBu := Lib.hid (HB6.out.trans (hS0.mono HB6.out.size))
    have HRu := Lib.hid (HR6.out.below hS0 (by omega))
    have hzu : w6.heap.size ≤ w6.drew.heap.size := hS0.size
    generalize w6.drew = wu at *
    clear hS0 HX6 HY6 HB6 HN6 HR6 HLB HOB
    go_wp2_with fail
    refine (BnCopy_any be.b be.mb be.L wu HOB'.out).mono ?_
    rintro e wv ⟨b0', mb0', rfl, hov, hbv, hmbv, hbuv⟩
    have HXv := Lib.hid (HXu.out.below hbuv HXu.out.lt)
    have HYv := Lib.hid (HYu.out.below hbuv HYu.out.lt)
    have HBv := Lib.hid (HBu.out.trans (hbuv.mono HBu.out.size))
    have HRv := Lib.hid (HRu.out.below hbuv (by omega))
    have HOv := Lib.hid hov
    have hzv := hbuv.size
    have HNE : Hid (w1.heap.size ≠ mb0' ∧ w4.heap.size ≠ mb0' ∧ w.heap.size ≤ b0' ∧ w.heap.size ≤ mb0' ∧ w1.heap.size ≤ mb0' ∧ w1.heap.size ≤ wv.heap.size ∧ True ∧ w1.heap.size ≤ wv.heap.size) := Lib.hid ⟨by omega, by omega, by omega, by omega, by omega, by omega, trivial, by omega⟩
    clear hov hbv hmbv hbuv HXu HYu HBu HRu HOB'
    go_wp2_with fail
    have HPK := Lib.hid (hpk : binN (plainNode F B) X = be.L)
    have HBK0 : Hid (BinOk 7500 be.L ∧ be.L.length ≤ 250) := Lib.hid (by rw [← hpk]; exact ⟨(HP.out.theBin X).1, (HP.out.theBin X).2.1⟩)
    clear hpk
    refine (Pieces_any (bs s) (by rw [bs_size]; omega) wv).mono ?_
    rintro e w7 ⟨v7, rfl, ho7, hb7⟩
    rw [bs_toList] at ho7
    have HX7 := Lib.hid (HXv.out.below hb7 HXv.out.lt)
    have HY7 := Lib.hid (HYv.out.below hb7 HYv.out.lt)
    have HB7 := Lib.hid (HBv.out.trans (hb7.mono HBv.out.size))
    have HR7 := Lib.hid (HRv.out.below hb7 HNE.out.2.2.2.2.2.1)
    have HO7 := Lib.hid (HOv.out.below hb7)
    obtain ⟨A7, c7, rfl, hc7, hrd7⟩ := own_rdI ho7
    have HRD7 := Lib.hid hrd7
    have HML := Lib.hid HOv.out.map.lt
    generalize hps : pieces s = ps at *
    clear hrd7 hb7 ho7 HXv HYv HBv HRv HOv hps
    go_wp2
    go_loopg [15, 66] ps.length (fun gh v15 v66 wr => ∃ (k : Nat) (Lk : HldL) (f : Int), v15 = .int .i64 f ∧ v66 = .int .i64 k ∧ k ≤ ps.length ∧ gh = ps.length - k ∧ Hid (putAll (ps.drop k) Lk f = putAll ps be.L 0) ∧ Hid (BinOk (7500 + k) Lk ∧ Lk.length ≤ 250) ∧ 0 ≤ f ∧ f ≤ 64 * (k : Int) ∧ Hid (OBin b0' mb0' Lk wr) ∧ Hid (w7.grownBy wr (some mb0')))
    case atStart => exact ⟨0, be.L, 0, rfl, rfl, Nat.zero_le _, rfl, Lib.hid (by rw [List.drop_zero]), Lib.hid ⟨by simpa using HBK0.out.1, HBK0.out.2⟩, Int.le_refl _, by omega, HO7, Lib.hid ⟨rfl, rfl, rfl, Nat.le_refl _, fun _ _ _ => rfl⟩⟩
    case round =>
      obtain ⟨k, Lk, f, rfl, rfl, hk, hgm, HPA, HBK, hf0, hf1, HOK, HGB⟩ := hrel
      have HBr : Hid (Below w.heap.size w wr) := Lib.hid (gb_toBelow HB7.out HB7.out.size HNE.out.2.2.2.1 HGB.out)
      by_cases hkl : k < ps.length
      · obtain ⟨g, rfl, hg1, hg2, hcell⟩ := HRD7.out (by omega)
        have hgne : some g ≠ some mb0' := by intro e; injection e with e; have := HML.out; omega
        have hd0 : w7.cell? ⟨g, k, none⟩ = some (.string (bs ps[k])) := hcell k _ (by simp [hkl])
        have d1 : wr.cell? ⟨g, k, none⟩ = some (.string (bs ps[k])) := (HGB.out.cell_far ⟨g, k, none⟩ hg2 hgne).trans hd0
        have b1 : (0 : Int) ≤ (k : Int) := by omega
        have b2 : (k : Int) < (ps.length : Int) := by omega
        have hp64 := HPL.out ps[k] (List.getElem_mem hkl)
        have HPUT := Lib.hid (BnPut_any a b0' mb0' Lk (7500 + k) (by omega) HBK.out.1 (by have := HBK.out.2; omega) ps[k] (by omega) wr HOK.out ((HS.out.below HBr.out).sub (js := [1, 6, 9]) (by decide)))
        unfold PutPost at HPUT
        have hpa := HPA.out
        rw [List.drop_eq_getElem_cons hkl] at hpa
        generalize ps[k] = p at *
        cases hpb : putB p Lk with | mk L' tl =>
        obtain ⟨x', q', c'⟩ := tl
        rw [putAll_next hpb] at hpa
        rw [hpb] at HPUT
        simp only at HPUT
        have HPA' := Lib.hid hpa
        have HNX := Lib.hid (fun (h : c' = 0) => putB_ok_bin (n := 7500 + k) (by omega) HBK.out.1 HBK.out.2 (by rw [hpb, h] : putB p Lk = (L', x', q', 0)))
        clear hcell hd0 hpa hpb HPA
        go_wp2_with fail
        refine HPUT.out.mono ?_
        rintro e w8 ⟨r8, rfl, hes, ho8, hg8⟩
        have hba : Below w8.heap.size w8 (w8.alloc (.cells #[.int .u32 (x'.1 : Int), .int .i64 x'.2] 47)) := (Below.refl _ _).alloc (Nat.le_refl _) _
        have HO8 := Lib.hid (ho8.below hba)
        have HG8 := Lib.hid (gb_below (HGB.out.trans hg8) hba)
        have HES := Lib.hid hes
        clear ho8 hg8 hba HPUT d1
        by_cases hc : c' = 0
        · subst hc
          obtain ⟨rfl, _⟩ := HES.out.nil rfl
          have HBN := Lib.hid (HNX.out rfl)
          rw [if_pos rfl] at HPA'
          have hkn : (7500 : Int) + (k : Int) + 1 = 7500 + ((k + 1 : Nat) : Int) := by omega
          rw [hkn] at HBN
          clear hes HNX hkn
          cases q' with
          | true =>
            rw [if_pos rfl] at HPA'
            have hpz : (0 : Int) ≤ ((bs p).size : Int) ∧ ((bs p).size : Int) ≤ 64 := by rw [bs_size]; omega
            obtain ⟨hpz0, hpz1⟩ := hpz
            go_wp2
            go_roundg (ps.length - (k + 1))
            case measure => omega
            case rel => exact ⟨k + 1, L', f + (p.length : Int), by rw [bs_size], by go_num, hkl, rfl, HPA', HBN, by omega, by omega, HO8, HG8⟩
          | false =>
            rw [if_neg (by decide), Int.add_zero] at HPA'
            go_wp2
            go_roundg (ps.length - (k + 1))
            case measure => omega
            case rel => exact ⟨k + 1, L', f, rfl, by go_num, hkl, rfl, HPA', HBN, hf0, by omega, HO8, HG8⟩
        · rw [if_neg hc] at HPA'
          obtain ⟨ty, pv, rfl⟩ := HES.out.some hc
          have HBAD := Lib.hid (fun w' (hb : Below w.heap.size w w') => putN_bad HN.out (by have := HPM.out L' 0 c' (by rw [HPK.out]; exact HPA'.out.symm); rw [if_neg hc] at this; exact this) HES.out hb)
          clear hes hc HNX
          go_wp2
          go_ret2
          exact HBAD.out _ (gb_toBelow HB7.out HB7.out.size HNE.out.2.2.2.1 HG8.out)
      · obtain rfl : k = ps.length := by omega
        have hpa : putAll ps be.L 0 = (Lk, f, 0) := by rw [← HPA.out, List.drop_length]; rfl
        have hpn := HPM.out Lk f 0 (by rw [HPK.out]; exact hpa)
        rw [if_pos rfl] at hpn
        have HPN := Lib.hid hpn
        have hnr := HN.out.below HBr.out
        have c0 := hnr.c0
        have c1 := hnr.c1
        obtain ⟨e0, e1, e2, e3, _⟩ := gb_box4 HGB.out (by intro e; injection e with e; exact HNE.out.1 e) HX7.out
        obtain ⟨y0, y1, _, _⟩ := gb_box2 HGB.out HNE.out.2.1 HY7.out
        have hrr : RdB wr w.heap.size w1.heap.size (.slice SA (rcpOf nm s).ids.length sc) (rcpOf nm s).ids := HR7.out.keep (fun q h1 h2 => HGB.out.cell_far q (Nat.lt_trans h2 HX7.out.lt) (by intro e; injection e with e; have := HNE.out.2.2.2.2.1; omega)) (Nat.le_refl _) (Nat.le_refl _)
        have hnd : ONode n fm bm F B wr.drew := hnr.below (Below.refl _ _).drew
        have hsF := ONode.srtF HP.out
        have hsB := ONode.srtB HP.out
        obtain ⟨v0, st, wa, wb, h1, h2, h3, h4', h5, h6, h7⟩ := AlMap.entry strRd klStr hnd.files hsF (hnd.keysF HP.out) Tryz.underlying102 zeroFE (by unfold maxLen; omega) nm ⟨rcpOf nm s, .slice SA (rcpOf nm s).ids.length sc⟩ HNM.out
        have hwz : wr.heap.size ≤ wb.heap.size := by rw [h7]; exact Nat.le_refl _
        have hA : ONode n fm bm (alPut bytesBefore nm ⟨rcpOf nm s, .slice SA (rcpOf nm s).ids.length sc⟩ F) B wb := hnd.setF h6 h5 h4' (fun q hq => by
          rcases alPut_mem hq with rfl | hq
          · exact .inr (((hrr.rd).stay h5).more (Nat.le_trans (Nat.le_of_lt HX7.out.lt) (Nat.le_trans HGB.out.size hwz)))
          · exact .inl hq)
        obtain ⟨v1, st2, wc, wd, k1, k2, k3, k4, k5, k6, k7⟩ := AlMap.entry idRd klId hA.bins hsB (hnd.keysB HP.out) Tryz.underlying103 zeroBE (by have := HP.out.blenF; unfold maxLen; omega) X ⟨Lk, b0', mb0'⟩ HXO.out
        have hOb : OBin b0' mb0' Lk wb := by
          have hor := HOK.out.below (Below.refl wr.heap.size wr).drew
          have hfm : fm < w.heap.size := HN.out.files.blt
          exact hor.grown h6 (by intro e; injection e with e; have := HNE.out.2.2.1; omega) (by intro e; injection e with e; have := HNE.out.2.2.2.1; omega)
        have hnew : mb0' ∉ B.map (fun q => q.2.mb) := fun hm => by
          obtain ⟨q, hq, e⟩ := List.mem_map.1 hm
          have := (HN.out.bin q hq).map.lt
          have := HNE.out.2.2.2.1
          omega
        have hnd0 := HN.out.nd
        rw [List.nodup_cons, List.nodup_cons] at hnd0
        have hND : (fm :: bm :: (alPut lesser X ⟨Lk, b0', mb0'⟩ B).map (fun q => q.2.mb)).Nodup := by
          have hfm : fm < w.heap.size := HN.out.files.blt
          have hbm : bm < w.heap.size := HN.out.bins.blt
          have hmb := HNE.out.2.2.2.1
          rw [List.nodup_cons, List.nodup_cons]
          refine ⟨fun hm => ?_, fun hm => ?_, alPut_map_nodup (fun q : BE => q.mb) hnd0.2.2 hnew⟩
          · rcases List.mem_cons.1 hm with e | hm
            · exact hnd0.1 (List.mem_cons.2 (.inl e))
            · rcases alPut_map_mem (fun q : BE => q.mb) hm with e | e
              · simp only at e; omega
              · exact hnd0.1 (List.mem_cons_of_mem _ e)
          · rcases alPut_map_mem (fun q : BE => q.mb) hm with e | e
            · simp only at e; omega
            · exact hnd0.2.1 e
        have hD : ONode n fm bm (alPut bytesBefore nm ⟨rcpOf nm s, .slice SA (rcpOf nm s).ids.length sc⟩ F) (alPut lesser X ⟨Lk, b0', mb0'⟩ B) wd := hA.setB k6 k5 k4 (fun q hq => by
          rcases alPut_mem hq with rfl | hq
          · have hbb : bm < w.heap.size := HN.out.bins.blt
            exact .inr (hOb.grown k6 (by intro e; injection e with e; have := HNE.out.2.2.1; omega) (by intro e; injection e with e; have := HNE.out.2.2.2.1; omega))
          · exact .inl hq) hND
        have HFIN : Hid (PutNPost a n fm bm F B nm s w (.returned (.tuple #[.int .i64 f, .nilIface])) wd) := Lib.hid (by
          refine ⟨.nilIface, nodeFoot n fm bm (alPut bytesBefore nm ⟨rcpOf nm s, .slice SA (rcpOf nm s).ids.length sc⟩ F) (alPut lesser X ⟨Lk, b0', mb0'⟩ B), by rw [HPN.out], by rw [HPN.out]; exact ES.none a, ?_, ?_, foot_put (fe := ⟨rcpOf nm s, .slice SA (rcpOf nm s).ids.length sc⟩) (be := ⟨Lk, b0', mb0'⟩) hrr.above HNE.out.2.2.1 HNE.out.2.2.2.1⟩
          · rw [HPN.out]
            have := hD.node
            unfold plainNode at this ⊢
            rw [alMap_put, alMap_put] at this
            exact this
          · exact ((FrS.of_below (S := (nodeFoot n fm bm F B).S) HBr.out).trans (FrS.of_below (S := (nodeFoot n fm bm F B).S) ((Below.refl wr.heap.size wr).drew)) (fun _ h => .inl h)).trans ((FrS.of_gb (S := (nodeFoot n fm bm F B).S) h6 (.inl rfl)).trans (FrS.of_gb (S := (nodeFoot n fm bm F B).S) k6 (.inr (.inl rfl))) (fun _ h => .inl h)) (fun _ h => .inl h))
        have hS1 : Stay wr wa := h2
        have hS2 : Stay wr wb := h5
        have hS3 : Stay wr wc := hS2.trans k2
        unfold feV at h3
        unfold beV at k3
        have hgi : ∀ z : Int, goInt z = .int .i64 z := fun _ => rfl
        rw [hgi] at h1 h3 k1 k3
        clear hgi
        clear hpa hpn hnr hrr hnd hsF hsB h4' h5 h6 h7 hwz hA k4 k5 k6 k7 hOb hnew hnd0 hND hD h2 k2
        go_wp2
        have hS0 : Stay wr wr.drew := Stay.refl _
        refine region_S (fun w' => Stay wr w') 17 (by kernel_rfl) (by kernel_rfl) ?_
        refine take_S 0 rfl (by kernel_rfl) (by kernel_rfl) hS0 (fun w' hS => by go_simp; rfl) ?_
        refine take_S 1 rfl (by kernel_rfl) (by kernel_rfl) hS0 (fun w' hS => by go_simp; rfl) ?_
        refine take_S 2 rfl (by kernel_rfl) (by kernel_rfl) hS0 (fun w' hS => by go_simp; rfl) ?_
        refine take_S 3 rfl (by kernel_rfl) (by kernel_rfl) hS0 (fun w' hS => by have A0 := hS _ _ c0; go_simp; rfl) ?_
        refine take_S 4 rfl (by kernel_rfl) (by kernel_rfl) hS0 (fun w' hS => by go_simp; rfl) ?_
        refine take_S 5 rfl (by kernel_rfl) (by kernel_rfl) hS0 (fun w' hS => by go_simp; rfl) ?_
        refine take_S 6 rfl (by kernel_rfl) (by kernel_rfl) hS0 (fun w' hS => by go_simp; rfl) ?_
        refine take_S 7 rfl (by kernel_rfl) (by kernel_rfl) hS0 (fun w' hS => by go_simp; rfl) ?_
        refine take_S 8 rfl (by kernel_rfl) (by kernel_rfl) hS0 (fun w' hS => by have A0 := hS _ _ c1; go_simp; rfl) ?_
        refine take_S 9 rfl (by kernel_rfl) (by kernel_rfl) hS0 (fun w' hS => by have A0 := hS _ _ y0; have A1 := hS _ _ y1; go_simp; rfl) ?_
        refine take_S 10 rfl (by kernel_rfl) (by kernel_rfl) hS0 (fun w' hS => by have A0 := hS _ _ e0; have A1 := hS _ _ e1; have A2 := hS _ _ e2; have A3 := hS _ _ e3; go_simp; rfl) ?_
        refine take_S 11 rfl (by kernel_rfl) (by kernel_rfl) hS0 (fun w' hS => by go_simp; rfl) ?_
        refine carry_S 12 rfl (by kernel_rfl) (by decide) (by kernel_rfl) (fun K hK => ?_)
        go_simp
        refine hK _ _ hS1 ?_
        clear hK K
        try simp only [Act.put, List.getElem_toArray, List.getElem_cons_succ, List.getElem_cons_zero, List.setIfInBounds_toArray, List.set_cons_zero, List.set_cons_succ]
        refine take_S 13 (v := .int .i64 (st : Int)) rfl (by kernel_rfl) (by kernel_rfl) hS1 (fun w' hS => by go_simp) ?_
        refine carry_S 14 rfl (by kernel_rfl) (by decide) (by kernel_rfl) (fun K hK => ?_)
        go_simp
        refine hK _ _ hS2 ?_
        clear hK K
        try simp only [Act.put, List.getElem_toArray, List.getElem_cons_succ, List.getElem_cons_zero, List.setIfInBounds_toArray, List.set_cons_zero, List.set_cons_succ]
        refine carry_S 15 rfl (by kernel_rfl) (by decide) (by kernel_rfl) (fun K hK => ?_)
        go_simp
        refine hK _ _ hS3 ?_
        clear hK K
        try simp only [Act.put, List.getElem_toArray, List.getElem_cons_succ, List.getElem_cons_zero, List.setIfInBounds_toArray, List.set_cons_zero, List.set_cons_succ]
        refine take_S 16 (v := .int .i64 (st2 : Int)) rfl (by kernel_rfl) (by kernel_rfl) hS3 (fun w' hS => by go_simp) (forced_S (by kernel_rfl) ?_)
        try simp only [Act.put, List.getElem_toArray, List.getElem_cons_succ, List.getElem_cons_zero, List.setIfInBounds_toArray, List.set_cons_zero, List.set_cons_succ]
        simp only [List.drop_succ_cons, List.drop_zero]
        go_wp2
        go_ret2
        exact HFIN.out
theorem NdPut_any (a : Nat → Addr) (n fm bm : Nat) (F : FL) (B : BL) (hP : NodeOk (plainNode F B)) (nm s : Bytes) (hn : StrOk nm) (w : World) (h : ONode n fm bm F B w) (hs : SomeS [1, 3, 5, 6, 9] a w) :
    Calls Tryz.prog 12 #[.pointer (some ⟨n, 0, none⟩), .string (bs nm), .string (bs s)] w (PutNPost a n fm bm F B nm s w) := by
  cases hN : isName nm with
  | false =>
    have e : ofRes nm s = (4, rcpZero) := if_pos hN
    exact NdPut_bad a n fm bm F B nm s hn (by rw [e]; decide) (by rw [putN_name hN, e]) w h hs
  | true =>
    by_cases h4 : 4000 < s.length
    · have e : ofRes nm s = (2, rcpZero) := (if_neg (by rw [hN]; decide)).trans (if_pos h4)
      exact NdPut_bad a n fm bm F B nm s hn (by rw [e]; decide) (by rw [putN_long hN h4, e]) w h hs
    · cases hgf : alGet F nm with
      | some fe =>
        obtain ⟨A, c, hsl, _⟩ := (h.file hP hgf).1
        exact NdPut_exist a n fm bm F B hP nm s hn hN h4 fe hgf A c hsl w h hs
      | none =>
        by_cases h30 : 30 ≤ F.length
        · exact NdPut_full a n fm bm F B hP nm s hn hN h4 hgf h30 w h hs
        · exact NdPut_main a n fm bm F B hP nm s hn hN h4 hgf h30 w h hs
end Go.Proofs.YtpanoplcamdnkaaGreatDoor
/- A node by what it is and the blocks that it stands on: New, Put, Get, Recipe, Bin, Size. Conditions: as named. -/
namespace Go.Proofs.YtpanoplcamdnkaaGreatDoor
open Go.RowKit Go.Lib Go.Maps Go.WideMaps

/-- what an act on a node leaves: the node that it is now, what stands -/
def NodeTo (n : Nat) (f : Foot) (P' : PNode) (w w' : World) : Prop := ∃ f', Node n P' f' w' ∧ FrS f.S w w' ∧ f.new f' w.heap.size
theorem NodeTo.below {n : Nat} {f : Foot} {P' : PNode} {w w' w2 : World} (h : NodeTo n f P' w w') (hb : Below w'.heap.size w' w2) : NodeTo n f P' w w2 := by
  obtain ⟨f', h1, h2, h3⟩ := h
  exact ⟨f', h1.below hb, h2.thenB hb, h3⟩
theorem NodeTo.stay {n : Nat} {f : Foot} {P : PNode} {w w' : World} (h : Node n P f w) (hb : Below w.heap.size w w') : NodeTo n f P w w' := ⟨f, h.below hb, FrS.of_below hb, Foot.new_refl _ _⟩
theorem Node.below {n : Nat} {f : Foot} {P : PNode} {w w' : World} (h : Node n P f w) (hb : Below w.heap.size w w') : Node n P f w' := Thing.below h hb
theorem Node.putC (a : Nat → Addr) {n : Nat} {P : PNode} {f : Foot} (hP : NodeOk P) (nm s : Bytes) (hn : StrOk nm) (w : World) (h : Node n P f w) (hs : SomeS [1, 3, 5, 6, 9] a w) :
    Calls Tryz.prog 12 #[.pointer (some ⟨n, 0, none⟩), .string (bs nm), .string (bs s)] w fun e w' => ∃ r, e = .returned (.tuple #[.int .i64 (putN nm s P).2.1, r]) ∧ EV a r (putN nm s P).2.2 (-1) w' ∧ NodeTo n f (putN nm s P).1 w w' := by
  obtain ⟨fm, bm, F, B, ho, rfl, rfl⟩ := h.at
  exact (NdPut_any a n fm bm F B hP nm s hn w ho hs).mono fun e w' ⟨r, f', h1, h2, h3, h4, h5⟩ => ⟨r, h1, h2.ev w', f', h3, h4, h5⟩
theorem Node.putS (a : Nat → Addr) {n : Nat} {P : PNode} {f : Foot} (hP : NodeOk P) (nm s : Bytes) (hn : StrOk nm) (w : World) (h : Node n P f w) (hs : SomeS [1, 3, 5, 6, 9] a w) :
    Calls Tryz.prog 12 #[.pointer (some ⟨n, 0, none⟩), .string (bs nm), .string (bs s)] w fun e w' => ∃ r, e = .returned (.tuple #[.int .i64 (putN nm s P).2.1, r]) ∧ ES a r (putN nm s P).2.2 ∧ NodeTo n f (putN nm s P).1 w w' := by
  obtain ⟨fm, bm, F, B, ho, rfl, rfl⟩ := h.at
  exact (NdPut_any a n fm bm F B hP nm s hn w ho hs).mono fun e w' ⟨r, f', h1, h2, h3, h4, h5⟩ => ⟨r, h1, h2, f', h3, h4, h5⟩
theorem Node.getC (a : Nat → Addr) {n : Nat} {P : PNode} {f : Foot} (hP : NodeOk P) (nm : Bytes) (hn : StrOk nm) (w : World) (h : Node n P f w) (hs : SomeS [1, 2, 3, 4, 6, 8] a w) :
    Calls Tryz.prog 16 #[.pointer (some ⟨n, 0, none⟩), .string (bs nm)] w (GetPost a (getN nm P) w) := by
  obtain ⟨fm, bm, F, B, ho, rfl, rfl⟩ := h.at
  exact NdGet_any a n fm bm F B hP nm hn w ho hs
theorem Node.recipeC (a : Nat → Addr) {n : Nat} {P : PNode} {f : Foot} (hP : NodeOk P) (nm : Bytes) (hn : StrOk nm) (w : World) (h : Node n P f w) (hs : SomeS [4] a w) :
    Calls Tryz.prog 46 #[.pointer (some ⟨n, 0, none⟩), .string (bs nm)] w fun e w' => ∃ v r, e = .returned (.tuple #[v, r]) ∧ EV a r (recN nm P).1 (-1) w' ∧ RcpW w' w.heap.size w'.heap.size v (recN nm P).2 ∧ Below w.heap.size w w' := by
  obtain ⟨fm, bm, F, B, ho, rfl, rfl⟩ := h.at
  exact NdRecipe_any a n fm bm F B hP.w nm hn w ho hs
theorem Node.recipeW (a : Nat → Addr) {n : Nat} {P : PNode} {f : Foot} (hP : NodeW P) (nm : Bytes) (hn : StrOk nm) (w : World) (h : Node n P f w) (hs : SomeS [4] a w) :
    Calls Tryz.prog 46 #[.pointer (some ⟨n, 0, none⟩), .string (bs nm)] w fun e w' => ∃ v r, e = .returned (.tuple #[v, r]) ∧ EV a r (recN nm P).1 (-1) w' ∧ RcpW w' w.heap.size w'.heap.size v (recN nm P).2 ∧ Below w.heap.size w w' := by
  obtain ⟨fm, bm, F, B, ho, rfl, rfl⟩ := h.at
  exact NdRecipe_any a n fm bm F B hP nm hn w ho hs
theorem Node.binW {n : Nat} {P : PNode} {f : Foot} (hP : NodeW P) (x : Idn) (hx : IdOk x) (w : World) (h : Node n P f w) :
    Calls Tryz.prog 48 #[.pointer (some ⟨n, 0, none⟩), idV x] w (BinPost P x w) := by
  obtain ⟨fm, bm, F, B, ho, rfl, rfl⟩ := h.at
  exact NdBin_any n fm bm F B hP x hx w ho
theorem Node.sizeC {n : Nat} {P : PNode} {f : Foot} (hP : NodeOk P) (w : World) (h : Node n P f w) :
    Calls Tryz.prog 14 #[.pointer (some ⟨n, 0, none⟩)] w fun e w' => e = .returned (.int .i64 (sizeN P)) ∧ Below w.heap.size w w' := by
  obtain ⟨fm, bm, F, B, ho, rfl, rfl⟩ := h.at
  exact NdSize_any n fm bm F B hP w ho
end Go.Proofs.YtpanoplcamdnkaaGreatDoor
/- Walks of the laws' LongActs, noded; a node that the call has made. Condition: the sentinels that are read lie as named (SomeS). -/
namespace Go.Proofs.YtpanoplcamdnkaaGreatDoor
open Go.RowKit Go.Lib

def longN (x : ActN) : Bool := decide (20 < x.kind.length) || decide (30 < x.nm.length) || (decide (600 < x.s.length) && decide (x.s.length ≠ 4001))
def longNs (l : List ActN) (most : Nat) : Int := if (decide (most < l.length) || l.any longN) = true then 1 else 0
theorem longN_next {l : List ActN} {k : Nat} (hk : k < l.length) (h : (l.take k).any longN = false) (hx : longN l[k] = false) : (l.take (k + 1)).any longN = false := by
  rw [List.take_succ_eq_append_getElem hk, List.any_append, h, List.any_cons, hx]; rfl
theorem longN_hit {l : List ActN} {k most : Nat} (hk : k < l.length) (hx : longN l[k] = true) : longNs l most = 1 := by
  unfold longNs
  rw [if_pos]
  rw [Bool.or_eq_true]
  exact .inr (List.any_eq_true.2 ⟨_, List.getElem_mem hk, hx⟩)
/-- acts that are not too long -/
theorem longNs_zero {l : List ActN} {most : Nat} (h : longNs l most = 0) : l.length ≤ most ∧ ∀ x ∈ l, x.kind.length ≤ 20 ∧ x.nm.length ≤ 30 ∧ (x.s.length ≤ 600 ∨ x.s.length = 4001) := by
  unfold longNs at h
  by_cases h1 : (decide (most < l.length) || l.any longN) = true
  · rw [if_pos h1] at h; cases h
  · rw [Bool.not_eq_true, Bool.or_eq_false_iff, decide_eq_false_iff_not] at h1
    refine ⟨by omega, fun x hx => ?_⟩
    have := List.any_eq_false.1 h1.2 x hx
    unfold longN at this
    simp at this
    omega
theorem longNs_cases (l : List ActN) (most : Nat) : longNs l most = 0 ∨ longNs l most = 1 := by unfold longNs; split <;> simp
set_option maxRecDepth 100000 in
set_option maxHeartbeats 2000000 in
theorem LongActs_any (v : Value) (l : List ActN) (hl : l.length ≤ maxLen) (hz : ∀ x ∈ l, x.kind.length ≤ maxLen ∧ x.nm.length ≤ maxLen ∧ x.s.length ≤ maxLen) (most : Nat) (hm : most ≤ 1000) (B : Nat) (w : World) (hv : ActNRd w B v l) :
    Calls Tryz.prog 10 #[v, .int .i64 most] w fun e w' => e = .returned (.int .i64 (longNs l most)) ∧ w = w' := by
  obtain ⟨A, c, rfl, hlc, hx⟩ := hv
  have HX := Lib.hid hx
  have HZ := Lib.hid hz
  clear hx hz
  unfold maxLen at hl
  by_cases h80 : most < l.length
  · have h80i : (l.length : Int) > (most : Int) := by omega
    have HP : Hid (longNs l most = 1) := Lib.hid (by unfold longNs; rw [decide_eq_true h80]; rfl)
    go_enter Tryz.func10, Tryz.ntmps10
    go_wp2
    go_ret
    exact ⟨by rw [HP.out]; rfl, rfl⟩
  · have h80i : ¬ (l.length : Int) > (most : Int) := by omega
    go_enter Tryz.func10, Tryz.ntmps10
    go_wp2
    go_loopg [5] l.length (fun gh vi wr => ∃ k : Nat, vi = .int .i64 k ∧ k ≤ l.length ∧ gh = l.length - k ∧ Hid ((l.take k).any longN = false) ∧ w = wr)
    case atStart => exact ⟨0, rfl, Nat.zero_le _, rfl, Lib.hid rfl, rfl⟩
    case round =>
      obtain ⟨k, rfl, hk, hgm, hno, rfl⟩ := hrel
      by_cases hkl : k < l.length
      · obtain ⟨g, o, rfl, hg, hcells⟩ := HX.out (by omega)
        obtain ⟨d0, d1, d2⟩ := hcells k hkl
        have b1 : (0 : Int) ≤ (k : Int) := by omega
        have b2 : (k : Int) < (l.length : Int) := by omega
        have hsz := HZ.out l[k] (List.getElem_mem hkl)
        unfold maxLen at hsz
        have Z0 : Hid ((bs l[k].kind).size = l[k].kind.length) := Lib.hid (bs_size _)
        have Z1 : Hid ((bs l[k].nm).size = l[k].nm.length) := Lib.hid (bs_size _)
        have Z2 : Hid ((bs l[k].s).size = l[k].s.length) := Lib.hid (bs_size _)
        have HHIT : Hid (longN l[k] = true → longNs l most = 1) := Lib.hid (fun h => longN_hit hkl h)
        have HNXT : Hid (longN l[k] = false → (l.take (k + 1)).any longN = false) := Lib.hid (fun h => longN_next hkl hno.out h)
        clear hcells
        by_cases h1 : 20 < l[k].kind.length
        · have h1i : ((bs l[k].kind).size : Int) > 20 := by rw [Z0.out]; omega
          have HP := Lib.hid (HHIT.out (by unfold longN; rw [decide_eq_true h1]; rfl))
          clear h1
          go_wp2
          go_ret
          exact ⟨by rw [HP.out]; rfl, rfl⟩
        · have h1i : ¬ ((bs l[k].kind).size : Int) > 20 := by rw [Z0.out]; omega
          by_cases h2 : 30 < l[k].nm.length
          · have h2i : ((bs l[k].nm).size : Int) > 30 := by rw [Z1.out]; omega
            have HP := Lib.hid (HHIT.out (by unfold longN; rw [decide_eq_true h2, Bool.or_true]; rfl))
            clear h1 h2
            go_wp2
            go_ret
            exact ⟨by rw [HP.out]; rfl, rfl⟩
          · have h2i : ¬ ((bs l[k].nm).size : Int) > 30 := by rw [Z1.out]; omega
            by_cases h3 : 600 < l[k].s.length
            · have h3i : ((bs l[k].s).size : Int) > 600 := by rw [Z2.out]; omega
              by_cases h4 : l[k].s.length = 4001
              · have h4i : (((bs l[k].s).size : Int) != 4001) = false := by rw [Z2.out, bne_eq_false_iff_eq]; omega
                have HN := Lib.hid (HNXT.out (by unfold longN; simp [h1, h2, h4]))
                clear h1 h2 h3 h4
                go_wp2
                go_roundg (l.length - (k + 1))
                case measure => omega
                case rel => exact ⟨k + 1, by go_num, hkl, rfl, HN, rfl⟩
              · have h4i : (((bs l[k].s).size : Int) != 4001) = true := by rw [Z2.out, bne_iff_ne]; omega
                have HP := Lib.hid (HHIT.out (by unfold longN; simp [h3, h4]))
                clear h1 h2 h3 h4
                go_wp2
                go_ret
                exact ⟨by rw [HP.out]; rfl, rfl⟩
            · have h3i : ¬ ((bs l[k].s).size : Int) > 600 := by rw [Z2.out]; omega
              have HN := Lib.hid (HNXT.out (by unfold longN; simp [h1, h2, h3]))
              clear h1 h2 h3
              go_wp2
              go_roundg (l.length - (k + 1))
              case measure => omega
              case rel => exact ⟨k + 1, by go_num, hkl, rfl, HN, rfl⟩
      · obtain rfl : k = l.length := by omega
        have HP : Hid (longNs l most = 0) := Lib.hid (by
          have h := hno.out
          rw [List.take_length] at h
          unfold longNs; rw [decide_eq_false h80, h]; rfl)
        clear hno
        go_wp2
        go_ret
        exact ⟨by rw [HP.out]; rfl, rfl⟩
/-! ### a node that the call has made -/
structure NIn (base n : Nat) (P : PNode) (f : Foot) (w0 w : World) : Prop where
  node : Node n P f w
  ge : ∀ k, f.S k → base ≤ k
  bel : Below base w0 w
  sz : base ≤ w.heap.size
theorem NIn.below {base n : Nat} {P : PNode} {f : Foot} {w0 w w' : World} (h : NIn base n P f w0 w) (hb : Below w.heap.size w w') : NIn base n P f w0 w' := ⟨h.node.below hb, h.ge, h.bel.trans (hb.mono h.sz), Nat.le_trans h.sz hb.size⟩
theorem NIn.to {base n : Nat} {P P' : PNode} {f : Foot} {w0 w w' : World} (h : NIn base n P f w0 w) (ht : NodeTo n f P' w w') : ∃ f', NIn base n P' f' w0 w' := by
  obtain ⟨f', h1, h2, h3⟩ := ht
  exact ⟨f', h1, fun k hk => ((h3 k).1 hk).elim (h.ge k) (fun hB => Nat.le_trans h.sz hB), h2.below h.bel h.sz h.ge, Nat.le_trans h.sz h2.size⟩
/-! ### noded -/
def hlo : Bytes := [104, 101, 108, 108, 111]
def hl1 : HldL := [⟨idOf hlo, 1, hlo⟩]
def hl2 : HldL := [⟨idOf hlo, 2, hlo⟩]
theorem pieces_hlo : pieces hlo = [hlo] := by decide
theorem ids_hlo : idsOf hlo = [idOf hlo] := by unfold idsOf; rw [pieces_hlo]; rfl
theorem get_hl1 : getB hl1 (idOf hlo) = some ⟨idOf hlo, 1, hlo⟩ := by unfold getB hl1; rw [List.find?_cons]; simp
theorem get_hl2 : getB hl2 (idOf hlo) = some ⟨idOf hlo, 2, hlo⟩ := by unfold getB hl2; rw [List.find?_cons]; simp
theorem put_hl1 : putB hlo [] = (hl1, idOf hlo, true, 0) := by
  unfold putB
  rw [if_neg (by decide)]; rfl
theorem put_hl2 : putB hlo hl1 = (hl2, idOf hlo, false, 0) := by
  unfold putB
  rw [if_neg (by decide), get_hl1]
  show (if hlo ≠ hlo then _ else (setB ⟨idOf hlo, 1 + 1, hlo⟩ hl1, idOf hlo, false, 0)) = _
  rw [if_neg (by simp)]
  unfold hl1 setB
  rw [if_pos rfl]; rfl
def nd1 : PNode := ⟨[([97], rcpOf [97] hlo)], [(idOf hlo, hl1)]⟩
def nd2 : PNode := ⟨[([97], rcpOf [97] hlo), ([98], rcpOf [98] hlo)], [(idOf hlo, hl2)]⟩
theorem rep_hlo : repOf (idsOf hlo) = idOf hlo := by rw [ids_hlo]; rfl
theorem putN_hl1 : putN [97] hlo ⟨[], []⟩ = (nd1, 5, 0) := by
  have hp : putAll (pieces hlo) (binN ⟨[], []⟩ (repOf (idsOf hlo))) 0 = (hl1, 5, 0) := by
    rw [pieces_hlo, show binN ⟨[], []⟩ (repOf (idsOf hlo)) = [] from rfl, putAll_next put_hl1]; rfl
  rw [putN_main (by decide) (by decide) (by decide) (by decide) hp, if_pos rfl, rep_hlo]; rfl
theorem putN_hl2 : putN [98] hlo nd1 = (nd2, 0, 0) := by
  have hb : binN nd1 (repOf (idsOf hlo)) = hl1 := by
    rw [rep_hlo]
    show (alGet [(idOf hlo, hl1)] (idOf hlo)).getD [] = hl1
    rw [alGet_cons, if_pos rfl]; rfl
  have hp : putAll (pieces hlo) (binN nd1 (repOf (idsOf hlo))) 0 = (hl2, 0, 0) := by
    rw [pieces_hlo, hb, putAll_next put_hl2]; rfl
  rw [putN_main (by decide) (by decide) (by show ¬ (alGet [(([97] : Bytes), rcpOf [97] hlo)] [98]).isSome = true; rw [alGet_cons, if_neg (by decide)]; decide) (by show ¬ 30 ≤ 1; decide) hp, if_pos rfl, rep_hlo]
  show (_, _, _) = _
  have e1 : alPut lesser (idOf hlo) hl2 nd1.bins = [(idOf hlo, hl2)] := by
    show alPut lesser (idOf hlo) hl2 [(idOf hlo, hl1)] = _
    unfold alPut
    rw [if_pos rfl]
  have e2 : alPut bytesBefore [98] (rcpOf [98] hlo) nd1.files = [([97], rcpOf [97] hlo), ([98], rcpOf [98] hlo)] := by
    show alPut bytesBefore [98] (rcpOf [98] hlo) [([97], rcpOf [97] hlo)] = _
    unfold alPut
    rw [if_neg (by decide), if_neg (by decide)]; rfl
  rw [e1, e2]; rfl
theorem getN_hl : getN [98] nd2 = (hlo, 0) := by
  have e : alGet nd2.files [98] = some (rcpOf [98] hlo) := by
    show alGet [(([97] : Bytes), rcpOf [97] hlo), ([98], rcpOf [98] hlo)] [98] = _
    rw [alGet_cons, if_neg (by decide), alGet_cons, if_pos rfl]
  have hb : binN nd2 (repR (rcpOf [98] hlo)) = hl2 := by
    rw [show repR (rcpOf [98] hlo) = idOf hlo from rep_hlo]
    show (alGet [(idOf hlo, hl2)] (idOf hlo)).getD [] = hl2
    rw [alGet_cons, if_pos rfl]; rfl
  unfold getN
  rw [e]
  simp only
  rw [hb, show (rcpOf [98] hlo).ids = [idOf hlo] from ids_hlo, List.map_cons, List.map_nil]
  have : textB hl2 (idOf hlo) = hlo := by unfold textB; rw [get_hl2]; rfl
  rw [this]; rfl
theorem size_nd2 : sizeN nd2 = 5 := rfl
theorem NIn.new {base n : Nat} {f : Foot} {w0 w : World} (hn : Node n ⟨[], []⟩ f w) (hg : f.ge base) (hb : Below base w0 w) (hz : base ≤ w.heap.size) : NIn base n ⟨[], []⟩ f w0 w := ⟨hn, fun k hk => hg k (.inl hk), hb, hz⟩
set_option maxRecDepth 100000 in
set_option maxHeartbeats 4000000 in
theorem noded_any (a : Nat → Addr) (w : World) (hs : SomeS [1, 2, 3, 4, 5, 6, 8, 9] a w) :
    Calls Tryz.prog 9 #[] w fun e w' => e = .returned (.bool true) ∧ Below w.heap.size w w' := by
  have HS := Lib.hid hs
  have ok1 : NodeOk nd1 := by have := NodeOk.nil.put [97] hlo; rw [putN_hl1] at this; exact this
  have ok2 : NodeOk nd2 := by have := ok1.put [98] hlo; rw [putN_hl2] at this; exact this
  have HP1 := Lib.hid (fun n f w' (h : NIn w.heap.size n ⟨[], []⟩ f w w') => Node.putC a NodeOk.nil [97] hlo (by unfold StrOk maxLen; decide) w' h.node ((hs.below h.bel).sub (js := [1, 3, 5, 6, 9]) (by decide)))
  have HP2 := Lib.hid (fun n f w' (h : NIn w.heap.size n nd1 f w w') => Node.putC a ok1 [98] hlo (by unfold StrOk maxLen; decide) w' h.node ((hs.below h.bel).sub (js := [1, 3, 5, 6, 9]) (by decide)))
  have HG := Lib.hid (fun n f w' (h : NIn w.heap.size n nd2 f w w') => Node.getC a ok2 [98] (by unfold StrOk maxLen; decide) w' h.node ((hs.below h.bel).sub (js := [1, 2, 3, 4, 6, 8]) (by decide)))
  have HZ := Lib.hid (fun n f w' (h : NIn w.heap.size n nd2 f w w') => Node.sizeC ok2 w' h.node)
  rw [putN_hl1] at HP1
  rw [putN_hl2] at HP2
  rw [getN_hl] at HG
  rw [size_nd2] at HZ
  unfold GetPost at HG
  have hcmp : ((bs hlo).toList == [104, 101, 108, 108, 111]) = true := by rw [ByteArray.toList_eq, bs_toList]; rfl
  clear hs ok1 ok2
  go_enter Tryz.func9, Tryz.ntmps9
  go_wp2_with fail
  refine (NdNew_any w).mono ?_
  rintro e w1 ⟨n, f, rfl, hn, hge, hb1⟩
  have H1 := Lib.hid (NIn.new hn hge hb1 hb1.size)
  clear hn hge hb1
  go_wp2_with fail
  refine (HP1.out n f w1 H1.out).mono ?_
  rintro e w2 ⟨r2, rfl, hev2, ht2⟩
  obtain ⟨rfl, _⟩ := hev2.nil rfl
  obtain ⟨f2, h2⟩ := H1.out.to ht2
  have H2 := Lib.hid h2
  clear hev2 ht2 h2
  go_wp2_with fail
  refine (HP2.out n f2 w2 H2.out).mono ?_
  rintro e w3 ⟨r3, rfl, hev3, ht3⟩
  obtain ⟨rfl, _⟩ := hev3.nil rfl
  obtain ⟨f3, h3⟩ := H2.out.to ht3
  have H3 := Lib.hid h3
  clear hev3 ht3 h3
  go_wp2_with fail
  refine (HG.out n f3 w3 H3.out).mono ?_
  rintro e w4 ⟨r4, rfl, hes4, hb4⟩
  obtain ⟨rfl, _⟩ := hes4.nil rfl
  have H4 := Lib.hid (H3.out.below hb4)
  clear hes4 hb4
  go_wp2_with fail
  refine (HZ.out n f3 w4 H4.out).mono ?_
  rintro e w5 ⟨rfl, hb5⟩
  have H5 := Lib.hid (H4.out.below hb5)
  clear hb5
  go_wp2
  go_ret
  exact ⟨rfl, H5.out.bel⟩
end Go.Proofs.YtpanoplcamdnkaaGreatDoor
/- A map's store and deletion, with what stands; the node's blocks once a file is dropped. No conditions but bounds. -/
namespace Go.Proofs.YtpanoplcamdnkaaGreatDoor
open Go.RowKit Go.Lib Go.Maps Go.WideMaps Go.ChangeMaps

theorem stay_turned {w w' : World} {b : Nat} (h : w.mapTurned w' b) : Stay w w' := by
  obtain ⟨es, clock, es', clock', hb, rfl⟩ := h
  exact stay_setBlock hb
section
variable {K V : Type} {P : Program} {k : TypeId} {lit : K → Lit} {lt : K → K → Bool} {ok okw : K → Prop} {kv : K → Value} [DecidableEq K]
theorem AlMap.upd (R : KeyRd P k lit lt ok okw kv) {f : V → Value} {mb : Nat} {L : List (K × V)} {w : World} (h : AlMap P k lit f mb L w) (hs : AlSrt lt L) (hL : ∀ p ∈ L, ok p.1) {t e : TypeId} (ht : P.underlying t = some (.map k e)) (hn : L.length < maxLen) (x : K) (v : V) (hx : ok x) :
    ∃ w', (Instr.mapUpdate t (.map (some mb)) (kv x) (f v)).run P w = .ok () w' ∧ AlMap P k lit f mb (alPut lt x v L) w' ∧ Stay w w' ∧ w.grownBy w' (some mb) := by
  obtain ⟨w', h6, h7, h8⟩ := World.ownsMap.store h R.law ht hn (R.key (R.emb.wide hx)) (show rawE (f v) = some (.held (f v), []) from rfl)
  exact ⟨w', h6, AlMap.put R hs hL x v hx h7, stay_turned h8, h8.grown⟩
theorem AlMap.drop (R : KeyRd P k lit lt ok okw kv) {f : V → Value} {mb : Nat} {L : List (K × V)} {w : World} (h : AlMap P k lit f mb L w) (hL : ∀ p ∈ L, ok p.1) {t e : TypeId} (ht : P.underlying t = some (.map k e)) (x : K) (hx : ok x) (ty : TypeId) :
    ∃ w', (Builtin.delete_ #[t, k] ty #[.map (some mb), kv x]).run P w = .ok (.tuple #[]) w' ∧ AlMap P k lit f mb (alDel x L) w' ∧ Stay w w' ∧ w.grownBy w' (some mb) := by
  obtain ⟨w', h6, h7, h8⟩ := World.ownsMap.drop h R.law ht (R.key (R.emb.wide hx)) ty
  exact ⟨w', h6, AlMap.del R hL x hx h7, stay_turned h8, h8.grown⟩
theorem alDel_sub {k : K} {L : List (K × V)} {q : K × V} (h : q ∈ alDel k L) : q ∈ L := (alDel_mem.1 h).1
end
/-- the blocks of a node of which a file was dropped -/
theorem foot_drop {n fm bm : Nat} {F F' : FL} {B B' : BL} {b : Nat} (hF : ∀ q ∈ F', q ∈ F) (hB : ∀ q ∈ B', q ∈ B ∨ (b ≤ q.2.b ∧ b ≤ q.2.mb)) :
    (nodeFoot n fm bm F B).new (nodeFoot n fm bm F' B') b := fun k => by
  refine ⟨?_, ?_⟩
  · rintro (rfl | rfl | ⟨q, hq, rfl⟩)
    · exact .inl (.inl rfl)
    · exact .inl (.inr (.inl rfl))
    · rcases hB q hq with h | h
      · exact .inl (.inr (.inr ⟨q, h, rfl⟩))
      · exact .inr h.2
  · rintro (rfl | ⟨q, hq, rfl⟩ | ⟨q, hq, e, hne⟩)
    · exact .inl (.inl rfl)
    · rcases hB q hq with h | h
      · exact .inl (.inr (.inl ⟨q, h, rfl⟩))
      · exact .inr h.1
    · exact .inl (.inr (.inr ⟨q, hF q hq, e, hne⟩))
end Go.Proofs.YtpanoplcamdnkaaGreatDoor

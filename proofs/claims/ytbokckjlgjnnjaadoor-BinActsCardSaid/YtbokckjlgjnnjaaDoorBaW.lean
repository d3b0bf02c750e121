/- Walk of the law BinActs. Condition: the sentinels lie as the text lays them (Sents). -/
import Derived.Test.YtbokckjlgjnnjaaDoorBaA
import Derived.Test.YtbokckjlgjnnjaaDoorBin2
import Derived.Test.YtbokckjlgjnnjaaDoorRbn1
import Derived.Test.YtbokckjlgjnnjaaDoorErrV
namespace Go.Proofs.YtbokckjlgjnnjaaDoor
open Go.RowKit Go.Lib

/-- the bins' blocks are apart from one another and lie from B on -/
structure Apart (B b mb rb : Nat) (v : Value) : Prop where
  b0 : B ≤ b
  m0 : B ≤ mb
  r0 : B ≤ rb
  br : b ≠ rb
  mr : mb ≠ rb
  bv : v.ownBlock ≠ some b
  mv : v.ownBlock ≠ some mb
/-- both bins hold the pieces L -/
structure TwoBins (B b mb rb : Nat) (v : Value) (L : HldL) (w : World) : Prop where
  a : Apart B b mb rb v
  o : OBin b mb L w
  r : RBin rb B v L w
theorem TwoBins.below {B b mb rb : Nat} {v : Value} {L : HldL} {w w' : World} (h : TwoBins B b mb rb v L w) (hb : Below w.heap.size w w') : TwoBins B b mb rb v L w' := ⟨h.a, h.o.below hb, h.r.below hb⟩
theorem OBin.mlt {b mb : Nat} {L : HldL} {w : World} (h : OBin b mb L w) : mb < w.heap.size := h.map.lt
/-- the bin's own step: the reference's stands -/
theorem Apart.left {B b mb rb : Nat} {v : Value} {L : HldL} {w w' : World} (h : Apart B b mb rb v) (hr : RBin rb B v L w) (hg : w.grownBy w' (some mb)) : RBin rb B v L w' := by
  refine ⟨?_, ?_, hr.ne⟩
  · rw [hg.block rb hr.lt (by intro e; injection e with e; exact h.mr e.symm)]; exact hr.row
  · refine ⟨hr.own.1, ?_⟩
    rcases hr.own.2 with h1 | ⟨g, cap, cur, hv, hgb, hh, h3⟩
    · exact .inl h1
    · refine .inr ⟨g, cap, cur, hv, hgb, (hg.block g (Array.getElem?_eq_some_iff.1 hh).1 (fun e => h.mv ?_)).trans hh, h3⟩
      injection e with e
      rw [hv, ← e]; rfl
/-- the reference's step: the bin stands -/
theorem Apart.right {B b mb rb : Nat} {v v' : Value} {L L' : HldL} {w w' : World} (h : Apart B b mb rb v) (ho : OBin b mb L w) (hr : RBin rb B v' L' w') (hf : BFrame rb v w w') (hv : v' = v ∨ ∀ g, v'.ownBlock = some g → w.heap.size ≤ g) : Apart B b mb rb v' ∧ OBin b mb L w' ∧ RBin rb B v' L' w' := by
  have hbl := ho.lt
  have hml := ho.mlt
  refine ⟨⟨h.b0, h.m0, h.r0, h.br, h.mr, fun e => ?_, fun e => ?_⟩, ho.keep (hf.block b hbl h.br h.bv) (hf.block mb hml h.mr h.mv), hr⟩
  · rcases hv with rfl | hv
    · exact h.bv e
    · have := hv b e; omega
  · rcases hv with rfl | hv
    · exact h.mv e
    · have := hv mb e; omega
theorem BFrame.below {rb B : Nat} {v : Value} {w0 w w' : World} (h : BFrame rb v w w') (hB : Below B w0 w) (hb : B ≤ w.heap.size) (hr : B ≤ rb) (hv : ∀ g, v.ownBlock = some g → B ≤ g) : Below B w0 w' :=
  ⟨h.os.trans hB.os, h.tape.trans hB.tape, h.output.trans hB.output, Nat.le_trans hB.size h.size, fun k hk => by
    rw [h.block k (Nat.lt_of_lt_of_le hk hb) (by omega) (fun e => by have := hv k e; omega)]; exact hB.block k hk⟩
theorem bs_listW (l : Bytes) : (bs l).toList = l := by rw [ByteArray.toList_eq, bs_toList]
theorem short_len {l : List ActB} (h : longActsB l = false) : l.length ≤ 80 := by
  unfold longActsB at h
  rw [Bool.or_eq_false_iff, decide_eq_false_iff_not] at h
  omega
theorem short_s {l : List ActB} (h : longActsB l = false) : ∀ x ∈ l, x.s.length ≤ 100 := fun x hx => by
  unfold longActsB at h
  rw [Bool.or_eq_false_iff] at h
  have := List.any_eq_false.1 h.2 x hx
  unfold longAct at this
  simp at this
  omega
theorem ES.errV {a : Nat → Addr} {v : Value} {c : Int} {w : World} (h : ES a v c) (hs : Sents a w) : ErrV a v c (-1) w := by
  rcases h with ⟨rfl, rfl⟩ | ⟨k, hk, rfl, rfl⟩
  · exact ErrV.none a w
  · exact ErrV.sent hs k hk
theorem BFrame.box4 {rb d : Nat} {v x y z u : Value} {w w' : World} (hf : BFrame rb v w w') (h : Box4 d x y z u w) (h1 : d ≠ rb) (h2 : v.ownBlock ≠ some d) : Box4 d x y z u w' := by
  have hb := hf.block d h.lt h1 h2
  exact ⟨(World.cell?_of_block (a := ⟨d, 0, none⟩) hb).trans h.c0, (World.cell?_of_block (a := ⟨d, 1, none⟩) hb).trans h.c1, (World.cell?_of_block (a := ⟨d, 2, none⟩) hb).trans h.c2, (World.cell?_of_block (a := ⟨d, 3, none⟩) hb).trans h.c3, fun j => (World.frozen?_of_block (a := ⟨d, j, none⟩) hb).trans (h.f j)⟩
theorem BFrame.box2 {rb d : Nat} {v x y : Value} {w w' : World} (hf : BFrame rb v w w') (h : Box2 d x y w) (h1 : d ≠ rb) (h2 : v.ownBlock ≠ some d) : Box2 d x y w' := by
  have hb := hf.block d h.lt h1 h2
  exact ⟨(World.cell?_of_block (a := ⟨d, 0, none⟩) hb).trans h.c0, (World.cell?_of_block (a := ⟨d, 1, none⟩) hb).trans h.c1, (World.frozen?_of_block (a := ⟨d, 0, none⟩) hb).trans h.f0, (World.frozen?_of_block (a := ⟨d, 1, none⟩) hb).trans h.f1⟩
theorem BnGet_as (a : Nat → Addr) (b mb : Nat) (L : HldL) (hL : ∀ y ∈ L, IdOk y.id) (x : Idn) (hx : IdOk x) (t : Bytes) (c : Int) (hg : getRes L x = (t, c)) (w : World) (hB : OBin b mb L w) (hs : SomeS [4] a w) :
    Calls Tryd.prog 24 #[.pointer (some ⟨b, 0, none⟩), idV x] w fun e w' => ∃ r, e = .returned (.tuple #[VT t, r]) ∧ EV a r c (-1) w' ∧ Below w.heap.size w w' := by
  have := BnGet_any a b mb L hL x hx w hB hs
  rw [hg] at this
  exact this
theorem coded_yesW (c : Int) : codedB c c (-1) = true := by unfold codedB; simp
theorem ActRd.below {w w' : World} {B : Nat} {v : Value} {l : List ActB} (h : ActRd w B v l) (hb : Below B w w') : ActRd w' B v l := by
  obtain ⟨A, c, hv, hc, hx⟩ := h
  refine ⟨A, c, hv, hc, fun h0 => ?_⟩
  obtain ⟨g, o, hA, hg, hcell⟩ := hx h0
  exact ⟨g, o, hA, hg, fun k hk => by
    obtain ⟨c0, c1, c2, c3⟩ := hcell k hk
    exact ⟨(hb.cell (p := ⟨g, o + (k * 4 + 0), none⟩) hg).trans c0, (hb.cell (p := ⟨g, o + (k * 4 + 1), none⟩) hg).trans c1, (hb.cell (p := ⟨g, o + (k * 4 + 2), none⟩) hg).trans c2, (hb.cell (p := ⟨g, o + (k * 4 + 3), none⟩) hg).trans c3⟩⟩
set_option maxRecDepth 100000 in
theorem BinActs_long (a : Nat → Addr) (v : Value) (l : List ActB) (hl : l.length ≤ maxLen) (hz : ∀ x ∈ l, x.kind.length ≤ maxLen ∧ x.s.length ≤ maxLen) (hlong : longActsB l = true) (w : World) (hv : ActRd w w.heap.size v l) (h : Sents a w) :
    Calls Tryd.prog 4 #[v] w fun e w' => e = .returned (.bool true) ∧ Below w.heap.size w w' := by
  have HB := Lib.hid (binned_any a w (h.someS _ (by decide)))
  have HLA := Lib.hid (fun w1 (hb : Below w.heap.size w w1) => longActs_any v l hl hz _ w1 (hv.below hb))
  have HLG := Lib.hid hlong
  clear h hv hlong
  go_enter Tryd.func4, Tryd.ntmps4
  go_wp2_with fail
  refine HB.out.mono ?_
  rintro e w1 ⟨rfl, hb1⟩
  go_wp2_with fail
  refine (HLA.out w1 hb1).mono ?_
  rintro e w2 ⟨rfl, hw⟩
  rw [HLG.out]
  have HB1 : Hid (Below w.heap.size w w2) := Lib.hid (by rw [← hw]; exact hb1)
  clear hw
  go_wp2
  go_ret
  exact ⟨rfl, HB1.out⟩
set_option maxRecDepth 100000 in
set_option maxHeartbeats 8000000 in
theorem BinActs_main (a : Nat → Addr) (v : Value) (l : List ActB) (hl : l.length ≤ maxLen) (hz : ∀ x ∈ l, x.kind.length ≤ maxLen ∧ x.s.length ≤ maxLen ∧ IdOk x.id) (hlong : longActsB l = false) (w : World) (hv : ActRd w w.heap.size v l) (h : Sents a w) :
    Calls Tryd.prog 4 #[v] w fun e w' => e = .returned (.bool true) ∧ Below w.heap.size w w' := by
  have HB := Lib.hid (binned_any a w (h.someS _ (by decide)))
  have HLA := Lib.hid (fun w1 (hb : Below w.heap.size w w1) => longActs_any v l hl (fun x hx => ⟨(hz x hx).1, (hz x hx).2.1⟩) _ w1 (hv.below hb))
  have HLG := Lib.hid hlong
  have H := Lib.hid h
  have HZ := Lib.hid hz
  have h80 := short_len hlong
  have HS100 := Lib.hid (short_s hlong)
  obtain ⟨A, c, rfl, hlc, hx⟩ := hv
  have HX := Lib.hid hx
  clear h hx hlong hz
  go_enter Tryd.func4, Tryd.ntmps4
  go_wp2_with fail
  refine HB.out.mono ?_
  rintro e w1 ⟨rfl, hb1⟩
  go_wp2_with fail
  refine (HLA.out w1 hb1).mono ?_
  rintro e w1' ⟨rfl, rfl⟩
  rw [HLG.out]
  have HB1 := Lib.hid hb1
  clear hb1 HLA HB
  go_wp2_with fail
  refine (BnNew_any w1).mono ?_
  rintro e w2 ⟨b, mb, rfl, ho, hb, hmb, hb2⟩
  have hs1 := HB1.out.size
  have ha3 := (Below.refl w2.heap.size w2).alloc (Nat.le_refl _) (.cells #[.slice none 0 0] 53)
  have HB3 := Lib.hid ((HB1.out.trans (hb2.mono hs1)).trans (ha3.mono (Nat.le_trans hs1 hb2.size)))
  have HT3 : Hid (TwoBins w.heap.size b mb w2.heap.size (.slice none 0 0) [] (w2.alloc (.cells #[.slice none 0 0] 53))) := Lib.hid
    ⟨⟨by omega, by omega, Nat.le_trans hs1 hb2.size, Nat.ne_of_lt ho.lt, Nat.ne_of_lt ho.mlt, (fun e => by cases e), (fun e => by cases e)⟩, ho.below ha3, ⟨heap_alloc_new w2 _, World.ownsRow_nil _ _ _ _, fun _ e => by cases e⟩⟩
  clear ho hb hmb hb2 ha3
  go_wp2
  generalize w2.alloc (.cells #[.slice none 0 0] 53) = w3 at *
  generalize w2.heap.size = rb at *
  go_loopg [6] l.length (fun gh vi wr => ∃ (k : Nat) (L : HldL) (v : Value), vi = .int .i64 k ∧ k ≤ l.length ∧ gh = l.length - k ∧ TwoBins w.heap.size b mb rb v L wr ∧ BinOk k L ∧ L.length ≤ 250 ∧ Below w.heap.size w wr)
  case atStart => exact ⟨0, [], _, rfl, Nat.zero_le _, rfl, HT3.out, BinOk.nil _, Nat.zero_le _, HB3.out⟩
  case round =>
    obtain ⟨k, L, v, rfl, hk, hgm, hT, hok, hlen, hB⟩ := hrel
    by_cases hkl : k < l.length
    · obtain ⟨g, o, rfl, hg, hcells⟩ := HX.out (by omega)
      obtain ⟨c0, c1, c2, c3⟩ := hcells k hkl
      replace c0 : wr.cell? ⟨g, o + k * 4, none⟩ = _ := (hB.cell (p := ⟨g, o + k * 4, none⟩) hg).trans c0
      replace c1 : wr.cell? ⟨g, o + k * 4 + 1, none⟩ = _ := (hB.cell (p := ⟨g, o + k * 4 + 1, none⟩) hg).trans c1
      replace c2 : wr.cell? ⟨g, o + k * 4 + 2, none⟩ = _ := (hB.cell (p := ⟨g, o + k * 4 + 2, none⟩) hg).trans c2
      replace c3 : wr.cell? ⟨g, o + k * 4 + 3, none⟩ = _ := (hB.cell (p := ⟨g, o + k * 4 + 3, none⟩) hg).trans c3
      have b1 : (0 : Int) ≤ (k : Int) := by omega
      have b2 : (k : Int) < (l.length : Int) := by omega
      obtain ⟨_, hxs, hxi⟩ := HZ.out l[k] (List.getElem_mem hkl)
      have hx100 := HS100.out l[k] (List.getElem_mem hkl)
      have HML : Hid (mb < wr.heap.size ∧ rb < wr.heap.size) := Lib.hid ⟨hT.o.mlt, hT.r.lt⟩
      have HVL : Hid (∀ g, v.ownBlock = some g → g < wr.heap.size) := Lib.hid fun g e => hT.r.own_lt e
      generalize l[k].kind = KD at *
      generalize l[k].s = X at *
      generalize l[k].id = xid at *
      have HXI := Lib.hid hxi
      have ha4 := (Below.refl wr.heap.size wr).alloc (Nat.le_refl _) (.cells #[.string (bs KD), .string (bs X), .int .u32 (xid.1 : Int), .int .i64 xid.2] 55)
      have HB4 := Lib.hid (hB.trans (ha4.mono hB.size))
      have HT4 := Lib.hid (hT.below ha4)
      have HX4 : Hid (Box4 wr.heap.size (.string (bs KD)) (.string (bs X)) (.int .u32 (xid.1 : Int)) (.int .i64 xid.2) (wr.alloc (.cells #[.string (bs KD), .string (bs X), .int .u32 (xid.1 : Int), .int .i64 xid.2] 55))) := Lib.hid (Box4.mk' _ _ _ _ _ _)
      have HOK := Lib.hid hok
      have HLEN := Lib.hid hlen
      have hkz : k ≤ 4611686018427387904 := by omega
      clear hcells hxi ha4 hT hok hlen hB
      by_cases k1 : KD = [112, 117, 116]
      · have k1i : ((bs KD).toList == [112, 117, 116]) = true := by rw [k1, bs_listW]; rfl
        obtain ⟨e0, e1, e2, e3, _⟩ := HX4.out
        have HOK' : Hid (BinOk ((k + 1 : Nat) : Int) (putB X L).1) := Lib.hid (by have := binOk_put (n := (k : Int)) (by omega) HOK.out X; simpa using this)
        have HLEN' := Lib.hid (length_put (s := X) HOK.out.srt HLEN.out)
        have HRP := Lib.hid (fun w6 (hw : w.heap.size ≤ w6.heap.size) (hr : RBin rb w.heap.size v L w6) => RBPut_any rb w.heap.size v L k (by omega) HOK.out (by have := HLEN.out; omega) X w6 hw hr)
        clear k1
        go_wp2_with fail
        generalize hw4 : wr.alloc (.cells #[.string (bs KD), .string (bs X), .int .u32 (xid.1 : Int), .int .i64 xid.2] 55) = w4 at *
        clear hw4
        refine (BnPut_any a b mb L k (by omega) HOK.out (by have := HLEN.out; omega) X (by omega) w4 HT4.out.o ((H.out.below HB4.out).someS _ (by decide))).mono ?_
        rintro e w5 ⟨r5, rfl, hev5, ho5, hg5⟩
        have HR5 := Lib.hid (HT4.out.a.left HT4.out.r hg5)
        have HB5 := Lib.hid (below_gb HB4.out HB4.out.size hg5 HT4.out.a.m0)
        have hx5 := gb_box4 hg5 (by intro e; injection e with e; have := HML.out; omega) HX4.out
        generalize hPB : putB X L = PB at *
        have HPB := Lib.hid hPB
        clear hPB
        have ha6 := (Below.refl w5.heap.size w5).alloc (Nat.le_refl _) (.cells #[.int .u32 (PB.2.1.1 : Int), .int .i64 PB.2.1.2] 44)
        have HX9 : Hid (Box2 w5.heap.size (.int .u32 (PB.2.1.1 : Int)) (.int .i64 PB.2.1.2) (w5.alloc (.cells #[.int .u32 (PB.2.1.1 : Int), .int .i64 PB.2.1.2] 44))) := Lib.hid (Box2.mk' _ _ _ _)
        have HE6 := Lib.hid hev5
        have HO6 := Lib.hid (ho5.below ha6)
        have HR6 := Lib.hid (HR5.out.below ha6)
        have HB6 := Lib.hid (HB5.out.trans (ha6.mono HB5.out.size))
        have HX6 := Lib.hid (hx5.below ha6 hx5.lt)
        have HS5 : Hid (wr.heap.size < w5.heap.size) := Lib.hid hx5.lt
        obtain ⟨f0, f1, f2, f3, _⟩ := HX6.out
        clear hev5 ho5 hg5 hx5 ha6 e0 e1 e2 e3 HR5 HB5
        go_wp2_with fail
        generalize hw6 : w5.alloc (.cells #[.int .u32 (PB.2.1.1 : Int), .int .i64 PB.2.1.2] 44) = w6 at *
        clear hw6
        refine (HRP.out w6 HB6.out.size HR6.out).mono ?_
        rintro e w7 ⟨v7, rfl, hr7, hv7, hf7⟩
        rw [HPB.out] at hr7 ⊢
        obtain ⟨hap, ho7, _⟩ := HT4.out.a.right HO6.out hr7 hf7 hv7
        have hb7 := hf7.below HB6.out HB6.out.size HT4.out.a.r0 (fun g e => own_ge HT4.out.r.own e)
        have hx7 := hf7.box4 HX6.out (by have := HML.out; omega) (fun e => Nat.lt_irrefl _ (HVL.out _ e))
        have hx9 := hf7.box2 HX9.out (by have := HML.out; have := HS5.out; omega) (fun e => by have := HVL.out _ e; have := HS5.out; omega)
        have ha8 := (Below.refl w7.heap.size w7).alloc (Nat.le_refl _) (.cells #[.int .u32 (PB.2.1.1 : Int), .int .i64 PB.2.1.2] 44)
        have HX12 : Hid (Box2 w7.heap.size (.int .u32 (PB.2.1.1 : Int)) (.int .i64 PB.2.1.2) (w7.alloc (.cells #[.int .u32 (PB.2.1.1 : Int), .int .i64 PB.2.1.2] 44))) := Lib.hid (Box2.mk' _ _ _ _)
        have HT8 := Lib.hid ((TwoBins.mk hap ho7 hr7).below ha8)
        have HB8 := Lib.hid (hb7.trans (ha8.mono hb7.size))
        have HX8 := Lib.hid (hx7.below ha8 hx7.lt)
        have HX98 := Lib.hid (hx9.below ha8 hx9.lt)
        clear hap ho7 hr7 hf7 hv7 hb7 hx7 hx9 ha8 f0 f1 f2 f3
        go_wp2_with fail
        generalize hw8 : w7.alloc (.cells #[.int .u32 (PB.2.1.1 : Int), .int .i64 PB.2.1.2] 44) = w8 at *
        clear hw8
        have FT := Lib.hid (coded1_any a r5 PB.2.2.2 PB.2.2.2 (-1) w8 (H.out.below HB8.out) (HE6.out.errV (H.out.below HB8.out)))
        rw [coded_yesW] at FT
        refine FT.out.mono ?_
        rintro e w9 ⟨rfl, hb9⟩
        have HT9 := Lib.hid (HT8.out.below hb9)
        have HB9 := Lib.hid (HB8.out.trans (hb9.mono HB8.out.size))
        have hx9 := HX8.out.below hb9 HX8.out.lt
        have HX9' := Lib.hid hx9
        obtain ⟨e0, e1, e2, e3, _⟩ := hx9
        obtain ⟨y0, y1, _, _⟩ := HX98.out.below hb9 HX98.out.lt
        obtain ⟨z0, z1, _, _⟩ := HX12.out.below hb9 HX12.out.lt
        clear FT hb9
        go_wp2_with fail
        refine (BnSize_any b mb PB.1 _ HOK'.out (by have := HLEN'.out; omega) w9 HT9.out.o).mono ?_
        rintro e w10 ⟨rfl, hb10⟩
        have HT10 := Lib.hid (HT9.out.below hb10)
        have HB10 := Lib.hid (HB9.out.trans (hb10.mono HB9.out.size))
        clear hb10
        go_wp2_with fail
        refine (RBSize_any rb w.heap.size v7 PB.1 (by have := HLEN'.out; omega) HOK'.out.lens w10 HT10.out.r).mono ?_
        rintro e w11 ⟨rfl, rfl⟩
        go_wp2
        go_roundg (l.length - (k + 1))
        case measure => omega
        case rel => exact ⟨k + 1, PB.1, v7, by go_num, hkl, rfl, HT10.out, HOK'.out, HLEN'.out, HB10.out⟩
      · have k1i : ((bs KD).toList == [112, 117, 116]) = false := by rw [bs_listW]; exact beq_eq_false_iff_ne.2 k1
        by_cases k2 : KD = [100, 114, 111, 112]
        · have k2i : ((bs KD).toList == [100, 114, 111, 112]) = true := by rw [k2, bs_listW]; rfl
          have HOK' : Hid (BinOk ((k + 1 : Nat) : Int) (dropB xid L).1) := Lib.hid ((binOk_drop HOK.out xid).mono (by omega))
          have HLEN' : Hid ((dropB xid L).1.length ≤ 250) := Lib.hid (by rw [length_drop HOK.out.srt]; exact HLEN.out)
          obtain ⟨e0, e1, e2, e3, _⟩ := HX4.out
          clear k1 k2
          go_wp2
          generalize hw4 : wr.alloc (.cells #[.string (bs KD), .string (bs X), .int .u32 (xid.1 : Int), .int .i64 xid.2] 55) = w4 at *
          clear hw4
          have hS0 : Box4 wr.heap.size (.string (bs KD)) (.string (bs X)) (.int .u32 (xid.1 : Int)) (.int .i64 xid.2) w4.drew := ⟨e0, e1, e2, e3, HX4.out.f⟩
          refine region_S (fun w' => Box4 wr.heap.size (.string (bs KD)) (.string (bs X)) (.int .u32 (xid.1 : Int)) (.int .i64 xid.2) w') 9 (by kernel_rfl) (by kernel_rfl) ?_
          refine take_S 0 rfl (by kernel_rfl) (by kernel_rfl) hS0 (fun w' hS => by obtain ⟨e0, e1, e2, e3, _⟩ := hS; go_simp; rfl) ?_
          refine take_S 1 rfl (by kernel_rfl) (by kernel_rfl) hS0 (fun w' hS => by obtain ⟨e0, e1, e2, e3, _⟩ := hS; go_simp; rfl) ?_
          refine take_S 2 rfl (by kernel_rfl) (by kernel_rfl) hS0 (fun w' hS => by obtain ⟨e0, e1, e2, e3, _⟩ := hS; go_simp; rfl) ?_
          refine take_S 4 rfl (by kernel_rfl) (by kernel_rfl) hS0 (fun w' hS => by obtain ⟨e0, e1, e2, e3, _⟩ := hS; go_simp; rfl) ?_
          refine take_S 5 rfl (by kernel_rfl) (by kernel_rfl) hS0 (fun w' hS => by obtain ⟨e0, e1, e2, e3, _⟩ := hS; go_simp; rfl) ?_
          refine take_S 6 rfl (by kernel_rfl) (by kernel_rfl) hS0 (fun w' hS => by obtain ⟨e0, e1, e2, e3, _⟩ := hS; go_simp; rfl) ?_
          refine carry_S 3 rfl (by kernel_rfl) (by decide) (by kernel_rfl) (fun K hK => ?_)
          go_simp
          have HT4d : Hid (TwoBins w.heap.size b mb rb v L w4.drew) := Lib.hid (HT4.out.below (Below.refl _ _).drew)
          have HB4d := Lib.hid HB4.out.drew
          refine (BnDrop_any a b mb L k (by omega) HOK.out (by have := HLEN.out; omega) xid HXI.out w4.drew HT4d.out.o ((H.out.below HB4d.out).someS _ (by decide))).mono ?_
          rintro e w5 ⟨r5, rfl, hev5, ho5, hg5⟩
          have HR5 := Lib.hid (HT4d.out.a.left HT4d.out.r hg5)
          have HB5 := Lib.hid (below_gb HB4d.out HB4d.out.size hg5 HT4d.out.a.m0)
          have hS5 := gb_box4 hg5 (by intro e; injection e with e; have := HML.out; omega) hS0
          have HE5 := Lib.hid hev5
          have HO5 := Lib.hid ho5
          refine hK _ _ hS5 ?_
          clear hK K hev5 ho5 hg5
          try simp only [Act.put, List.getElem_toArray, List.getElem_cons_succ, List.getElem_cons_zero, List.setIfInBounds_toArray, List.set_cons_zero, List.set_cons_succ]
          refine carry_S 7 rfl (by kernel_rfl) (by decide) (by kernel_rfl) (fun K hK => ?_)
          go_simp
          refine (RBDrop_any rb w.heap.size v L k (by omega) HOK.out (by have := HLEN.out; omega) xid w5 HR5.out).mono ?_
          rintro e w7 ⟨rfl, hr7, hf7⟩
          obtain ⟨hap, ho7, _⟩ := HT4d.out.a.right HO5.out hr7 hf7 (.inl rfl)
          have HB7 := Lib.hid (hf7.below HB5.out HB5.out.size HT4d.out.a.r0 (fun g e => own_ge HT4d.out.r.own e))
          have hS7 := hf7.box4 hS5 (by have := HML.out; omega) (fun e => Nat.lt_irrefl _ (HVL.out _ e))
          have HT7 := Lib.hid (TwoBins.mk hap ho7 hr7)
          refine hK _ _ hS7 ?_
          clear hK K hap ho7 hr7 hf7
          try simp only [Act.put, List.getElem_toArray, List.getElem_cons_succ, List.getElem_cons_zero, List.setIfInBounds_toArray, List.set_cons_zero, List.set_cons_succ]
          refine carry_S 8 rfl (by kernel_rfl) (by decide) (by kernel_rfl) (fun K hK => ?_)
          go_simp
          have FT := Lib.hid (coded1_any a r5 (dropB xid L).2 (dropB xid L).2 (-1) w7 (H.out.below HB7.out) (HE5.out.errV (H.out.below HB7.out)))
          rw [coded_yesW] at FT
          refine FT.out.mono ?_
          rintro e w9 ⟨rfl, hb9⟩
          have HT9 := Lib.hid (HT7.out.below hb9)
          have HB9 := Lib.hid (HB7.out.trans (hb9.mono HB7.out.size))
          refine hK _ _ (hS7.below hb9 hS7.lt) (forced_S (by kernel_rfl) ?_)
          clear hK K FT hb9 hS0 hS5 hS7 e0 e1 e2 e3
          try simp only [Act.put, List.getElem_toArray, List.getElem_cons_succ, List.getElem_cons_zero, List.setIfInBounds_toArray, List.set_cons_zero, List.set_cons_succ]
          simp only [List.drop_succ_cons, List.drop_zero]
          go_wp2_with fail
          refine (BnSize_any b mb (dropB xid L).1 _ HOK'.out (by have := HLEN'.out; omega) w9 HT9.out.o).mono ?_
          rintro e w10 ⟨rfl, hb10⟩
          have HT10 := Lib.hid (HT9.out.below hb10)
          have HB10 := Lib.hid (HB9.out.trans (hb10.mono HB9.out.size))
          clear hb10
          go_wp2_with fail
          refine (RBSize_any rb w.heap.size v (dropB xid L).1 (by have := HLEN'.out; omega) HOK'.out.lens w10 HT10.out.r).mono ?_
          rintro e w11 ⟨rfl, rfl⟩
          go_wp2
          go_roundg (l.length - (k + 1))
          case measure => omega
          case rel => exact ⟨k + 1, (dropB xid L).1, v, by go_num, hkl, rfl, HT10.out, HOK'.out, HLEN'.out, HB10.out⟩
        · have k2i : ((bs KD).toList == [100, 114, 111, 112]) = false := by rw [bs_listW]; exact beq_eq_false_iff_ne.2 k2
          by_cases k3 : KD = [115, 119, 101, 101, 112]
          · have k3i : ((bs KD).toList == [115, 119, 101, 101, 112]) = true := by rw [k3, bs_listW]; rfl
            obtain ⟨e0, e1, e2, e3, _⟩ := HX4.out
            have HOK' : Hid (BinOk ((k + 1 : Nat) : Int) (sweepB L)) := Lib.hid ((binOk_filter HOK.out usedB).mono (by omega))
            have HLEN' : Hid ((sweepB L).length ≤ 250) := Lib.hid (Nat.le_trans (List.length_filter_le _ _) HLEN.out)
            clear k1 k2 k3
            go_wp2_with fail
            generalize hw4 : wr.alloc (.cells #[.string (bs KD), .string (bs X), .int .u32 (xid.1 : Int), .int .i64 xid.2] 55) = w4 at *
            clear hw4
            refine (BnSweep_any b mb L k HOK.out (by have := HLEN.out; omega) w4 HT4.out.o).mono ?_
            rintro e w5 ⟨rfl, ho5, hg5⟩
            have HR5 := Lib.hid (HT4.out.a.left HT4.out.r hg5)
            have HB5 := Lib.hid (below_gb HB4.out HB4.out.size hg5 HT4.out.a.m0)
            have HO5 := Lib.hid ho5
            clear ho5 hg5 e0 e1 e2 e3
            go_wp2_with fail
            refine (RBSweep_any rb w.heap.size v L k HOK.out (by have := HLEN.out; omega) w5 HB5.out.size HR5.out).mono ?_
            rintro e w9 ⟨v7, rfl, hr9, hv9, hf9⟩
            obtain ⟨hap, ho9, _⟩ := HT4.out.a.right HO5.out hr9 hf9 (.inr hv9)
            have HB9 := Lib.hid (hf9.below HB5.out HB5.out.size HT4.out.a.r0 (fun g e => own_ge HT4.out.r.own e))
            have HT9 : Hid (TwoBins w.heap.size b mb rb v7 (sweepB L) w9) := Lib.hid ⟨hap, ho9, hr9⟩
            clear hap ho9 hr9 hv9 hf9
            go_wp2_with fail
            refine (BnSize_any b mb (sweepB L) _ HOK'.out (by have := HLEN'.out; omega) w9 HT9.out.o).mono ?_
            rintro e w10 ⟨rfl, hb10⟩
            have HT10 := Lib.hid (HT9.out.below hb10)
            have HB10 := Lib.hid (HB9.out.trans (hb10.mono HB9.out.size))
            clear hb10
            go_wp2_with fail
            refine (RBSize_any rb w.heap.size v7 (sweepB L) (by have := HLEN'.out; omega) HOK'.out.lens w10 HT10.out.r).mono ?_
            rintro e w11 ⟨rfl, rfl⟩
            go_wp2
            go_roundg (l.length - (k + 1))
            case measure => omega
            case rel => exact ⟨k + 1, (sweepB L), v7, by go_num, hkl, rfl, HT10.out, HOK'.out, HLEN'.out, HB10.out⟩
          · have k3i : ((bs KD).toList == [115, 119, 101, 101, 112]) = false := by rw [bs_listW]; exact beq_eq_false_iff_ne.2 k3
            obtain ⟨e0, e1, e2, e3, _⟩ := HX4.out
            have HOK' : Hid (BinOk ((k + 1 : Nat) : Int) L) := Lib.hid (HOK.out.mono (by omega))
            clear k1 k2 k3
            go_wp2_with fail
            generalize hw4 : wr.alloc (.cells #[.string (bs KD), .string (bs X), .int .u32 (xid.1 : Int), .int .i64 xid.2] 55) = w4 at *
            clear hw4
            obtain ⟨GT, GC, hgr⟩ : ∃ t c, getRes L xid = (t, c) := ⟨_, _, rfl⟩
            refine (BnGet_as a b mb L HOK.out.idok xid HXI.out GT GC hgr w4 HT4.out.o ((H.out.below HB4.out).someS _ (by decide))).mono ?_
            rintro e w5 ⟨r5, rfl, hev5, hb5⟩
            have HT5 := Lib.hid (HT4.out.below hb5)
            have HB5 := Lib.hid (HB4.out.trans (hb5.mono HB4.out.size))
            have HX5 := Lib.hid (HX4.out.below hb5 HX4.out.lt)
            obtain ⟨f0, f1, f2, f3, _⟩ := HX5.out
            have HGR := Lib.hid hgr
            clear hgr hb5 e0 e1 e2 e3
            go_wp2_with fail
            refine (RBFind_any rb w.heap.size v L (by have := HLEN.out; omega) xid w5 HT5.out.r).mono ?_
            rintro e w6 ⟨hb6, (⟨j, hs, rfl⟩ | ⟨hn, rfl⟩)⟩
            · have hgr : (GT, GC) = ((L[j]'hs.1).text, (0 : Int)) := by rw [← HGR.out]; unfold getRes; rw [getB_stands hs]
              injection hgr with hg1 hg2
              subst hg2
              obtain ⟨rfl, _⟩ := hev5.nil rfl
              have HT9 := Lib.hid (HT5.out.below hb6)
              have HB9 := Lib.hid (HB5.out.trans (hb6.mono HB5.out.size))
              obtain ⟨A6, u6, hv6, hr6⟩ := own_rdH HT9.out.r.own
              subst hv6
              obtain ⟨g6, rfl, _, hc6⟩ := hr6 (by have := hs.1; omega)
              obtain ⟨z0, z1, z2, y3⟩ := hc6 j hs.1
              rw [← hg1] at y3
              have rc := HT9.out.r.cell
              have j1 : (0 : Int) ≤ (j : Int) := by omega
              have j2 : (j : Int) < (L.length : Int) := by have := hs.1; omega
              clear hc6 hr6 hev5 hb6 f0 f1 f2 f3 HGR z0 z1 z2 hg1 hs
              go_wp2_with fail
              refine (BnSize_any b mb L _ HOK'.out (by have := HLEN.out; omega) w6 HT9.out.o).mono ?_
              rintro e w10 ⟨rfl, hb10⟩
              have HT10 := Lib.hid (HT9.out.below hb10)
              have HB10 := Lib.hid (HB9.out.trans (hb10.mono HB9.out.size))
              clear hb10
              go_wp2_with fail
              refine (RBSize_any rb w.heap.size (.slice (some ⟨g6, 0, none⟩) L.length u6) L (by have := HLEN.out; omega) HOK'.out.lens w10 HT10.out.r).mono ?_
              rintro e w11 ⟨rfl, rfl⟩
              go_wp2
              go_roundg (l.length - (k + 1))
              case measure => omega
              case rel => exact ⟨k + 1, L, (.slice (some ⟨g6, 0, none⟩) L.length u6), by go_num, hkl, rfl, HT10.out, HOK'.out, HLEN.out, HB10.out⟩
            · have hgr : (GT, GC) = (([] : Bytes), (5 : Int)) := by rw [← HGR.out]; unfold getRes; rw [getB_nowhere hn]
              injection hgr with hg1 hg2
              subst hg1
              subst hg2
              have HT6 := Lib.hid (HT5.out.below hb6)
              have HB6 := Lib.hid (HB5.out.trans (hb6.mono HB5.out.size))
              obtain ⟨T5, p5, hr5⟩ := hev5.some (by decide)
              have hev6 := hev5.below hb6
              clear hev5 hn hb6 f0 f1 f2 f3 HGR
              subst hr5
              have FT := Lib.hid (coded1_any a _ 5 5 (-1) w6 (H.out.below HB6.out) (hev6.toErrV (H.out.below HB6.out)))
              rw [coded_yesW] at FT
              clear hev6
              rw [show VT ([] : Bytes) = .string ⟨#[]⟩ from rfl]
              go_wp2_with fail
              refine FT.out.mono ?_
              rintro e w9 ⟨rfl, hb9⟩
              have HT9 := Lib.hid (HT6.out.below hb9)
              have HB9 := Lib.hid (HB6.out.trans (hb9.mono HB6.out.size))
              clear FT hb9
              go_wp2_with fail
              refine (BnSize_any b mb L _ HOK'.out (by have := HLEN.out; omega) w9 HT9.out.o).mono ?_
              rintro e w10 ⟨rfl, hb10⟩
              have HT10 := Lib.hid (HT9.out.below hb10)
              have HB10 := Lib.hid (HB9.out.trans (hb10.mono HB9.out.size))
              clear hb10
              go_wp2_with fail
              refine (RBSize_any rb w.heap.size v L (by have := HLEN.out; omega) HOK'.out.lens w10 HT10.out.r).mono ?_
              rintro e w11 ⟨rfl, rfl⟩
              go_wp2
              go_roundg (l.length - (k + 1))
              case measure => omega
              case rel => exact ⟨k + 1, L, v, by go_num, hkl, rfl, HT10.out, HOK'.out, HLEN.out, HB10.out⟩
    · obtain rfl : k = l.length := by omega
      have HT := Lib.hid hT
      have HOK := Lib.hid hok
      have HLEN := Lib.hid hlen
      have HB := Lib.hid hB
      clear hT hok hlen hB
      go_wp2_with fail
      refine (BnCopy_any b mb L wr HT.out.o).mono ?_
      rintro e w5 ⟨b2, mb2, rfl, ho2, _, _, hb5⟩
      have HO5 := Lib.hid ho2
      have HT5 := Lib.hid (HT.out.below hb5)
      have HB5 := Lib.hid (HB.out.trans (hb5.mono HB.out.size))
      obtain ⟨A5, u5, hv5⟩ := own_formI HT5.out.r.own
      subst hv5
      have HRL : Hid (rb < w5.heap.size) := Lib.hid HT5.out.r.lt
      have HCR : Hid (w5.cell? ⟨rb, 0, none⟩ = some (.slice A5 L.length u5)) := Lib.hid HT5.out.r.cell
      clear ho2 hb5
      go_wp2
      have hS0 : Below w5.heap.size w5 w5.drew := (Below.refl _ _).drew
      refine region_S (fun w' => Below w5.heap.size w5 w') 19 (by kernel_rfl) (by kernel_rfl) ?_
      refine take_S 0 rfl (by kernel_rfl) (by kernel_rfl) hS0 (fun w' hS => by have hc := (hS.cell (p := ⟨rb, 0, none⟩) HRL.out).trans HCR.out; go_simp; rfl) ?_
      refine take_S 1 rfl (by kernel_rfl) (by kernel_rfl) hS0 (fun w' hS => by have hc := (hS.cell (p := ⟨rb, 0, none⟩) HRL.out).trans HCR.out; go_simp; rfl) ?_
      refine take_S 2 rfl (by kernel_rfl) (by kernel_rfl) hS0 (fun w' hS => by have hc := (hS.cell (p := ⟨rb, 0, none⟩) HRL.out).trans HCR.out; go_simp; rfl) ?_
      refine take_S 3 rfl (by kernel_rfl) (by kernel_rfl) hS0 (fun w' hS => by have hc := (hS.cell (p := ⟨rb, 0, none⟩) HRL.out).trans HCR.out; go_simp; rfl) ?_
      refine take_S 5 rfl (by kernel_rfl) (by kernel_rfl) hS0 (fun w' hS => by have hc := (hS.cell (p := ⟨rb, 0, none⟩) HRL.out).trans HCR.out; go_simp; rfl) ?_
      refine take_S 6 rfl (by kernel_rfl) (by kernel_rfl) hS0 (fun w' hS => by have hc := (hS.cell (p := ⟨rb, 0, none⟩) HRL.out).trans HCR.out; go_simp; rfl) ?_
      refine take_S 7 rfl (by kernel_rfl) (by kernel_rfl) hS0 (fun w' hS => by have hc := (hS.cell (p := ⟨rb, 0, none⟩) HRL.out).trans HCR.out; go_simp; rfl) ?_
      refine take_S 8 rfl (by kernel_rfl) (by kernel_rfl) hS0 (fun w' hS => by have hc := (hS.cell (p := ⟨rb, 0, none⟩) HRL.out).trans HCR.out; go_simp; rfl) ?_
      refine carry_S 4 rfl (by kernel_rfl) (by decide) (by kernel_rfl) (fun K hK => ?_)
      go_simp
      refine (BnAll_any b mb L l.length HOK.out (by have := HLEN.out; omega) w5.drew (HT5.out.o.below hS0)).mono ?_
      rintro e w6 ⟨v6, rfl, hrow6, hb6⟩
      have hS6 : Below w5.heap.size w5 w6 := hS0.trans (hb6.mono hS0.size)
      obtain ⟨A6, u6, hv6⟩ := own_formI hrow6
      subst hv6
      have HR6 := Lib.hid (own_rdH2 hrow6)
      have HR56 := Lib.hid (own_rdH2 (own_belowI HT5.out.r.own hS6))
      clear hrow6 hb6
      refine hK _ _ hS6 ?_
      clear hK K
      try simp only [Act.put, List.getElem_toArray, List.getElem_cons_succ, List.getElem_cons_zero, List.setIfInBounds_toArray, List.set_cons_zero, List.set_cons_succ]
      refine carry_S 9 rfl (by kernel_rfl) (by decide) (by kernel_rfl) (fun K hK => ?_)
      go_simp
      refine (SameHelds_same _ _ L (by have := HLEN.out; omega) _ w6 HR6.out HR56.out (Nat.le_refl _)).mono ?_
      rintro e w7 ⟨rfl, hb7⟩
      have hS7 : Below w5.heap.size w5 w7 := hS6.trans (hb7.mono hS6.size)
      clear hb7
      refine hK _ _ hS7 ?_
      clear hK K
      try simp only [Act.put, List.getElem_toArray, List.getElem_cons_succ, List.getElem_cons_zero, List.setIfInBounds_toArray, List.set_cons_zero, List.set_cons_succ]
      refine take_S 10 rfl (by kernel_rfl) (by kernel_rfl) hS7 (fun w' hS => by have hc := (hS.cell (p := ⟨rb, 0, none⟩) HRL.out).trans HCR.out; go_simp; rfl) ?_
      refine take_S 11 rfl (by kernel_rfl) (by kernel_rfl) hS7 (fun w' hS => by have hc := (hS.cell (p := ⟨rb, 0, none⟩) HRL.out).trans HCR.out; go_simp; rfl) ?_
      refine take_S 12 rfl (by kernel_rfl) (by kernel_rfl) hS7 (fun w' hS => by have hc := (hS.cell (p := ⟨rb, 0, none⟩) HRL.out).trans HCR.out; go_simp; rfl) ?_
      refine take_S 14 rfl (by kernel_rfl) (by kernel_rfl) hS7 (fun w' hS => by have hc := (hS.cell (p := ⟨rb, 0, none⟩) HRL.out).trans HCR.out; go_simp; rfl) ?_
      refine take_S 15 rfl (by kernel_rfl) (by kernel_rfl) hS7 (fun w' hS => by have hc := (hS.cell (p := ⟨rb, 0, none⟩) HRL.out).trans HCR.out; go_simp; rfl) ?_
      refine take_S 16 rfl (by kernel_rfl) (by kernel_rfl) hS7 (fun w' hS => by have hc := (hS.cell (p := ⟨rb, 0, none⟩) HRL.out).trans HCR.out; go_simp; rfl) ?_
      refine take_S 17 rfl (by kernel_rfl) (by kernel_rfl) hS7 (fun w' hS => by have hc := (hS.cell (p := ⟨rb, 0, none⟩) HRL.out).trans HCR.out; go_simp; rfl) ?_
      refine carry_S 13 rfl (by kernel_rfl) (by decide) (by kernel_rfl) (fun K hK => ?_)
      go_simp
      refine (BnAll_any b2 mb2 L l.length HOK.out (by have := HLEN.out; omega) w7 (HO5.out.below hS7)).mono ?_
      rintro e w8 ⟨v8, rfl, hrow8, hb8⟩
      have hS8 : Below w5.heap.size w5 w8 := hS7.trans (hb8.mono hS7.size)
      obtain ⟨A8, u8, hv8⟩ := own_formI hrow8
      subst hv8
      have HR8 := Lib.hid (own_rdH2 hrow8)
      have HR58 := Lib.hid (own_rdH2 (own_belowI HT5.out.r.own hS8))
      clear hrow8 hb8
      refine hK _ _ hS8 ?_
      clear hK K
      try simp only [Act.put, List.getElem_toArray, List.getElem_cons_succ, List.getElem_cons_zero, List.setIfInBounds_toArray, List.set_cons_zero, List.set_cons_succ]
      refine carry_S 18 rfl (by kernel_rfl) (by decide) (by kernel_rfl) (fun K hK => ?_)
      go_simp
      refine (SameHelds_same _ _ L (by have := HLEN.out; omega) _ w8 HR8.out HR58.out (Nat.le_refl _)).mono ?_
      rintro e w9 ⟨rfl, hb9⟩
      have hS9 : Below w5.heap.size w5 w9 := hS8.trans (hb9.mono hS8.size)
      have HB9 := Lib.hid (HB5.out.trans (hS9.mono HB5.out.size))
      refine hK _ _ hS9 (forced_S (by kernel_rfl) ?_)
      clear hK K hb9
      try simp only [Act.put, List.getElem_toArray, List.getElem_cons_succ, List.getElem_cons_zero, List.setIfInBounds_toArray, List.set_cons_zero, List.set_cons_succ]
      simp only [List.drop_succ_cons, List.drop_zero]
      go_wp2
      go_ret
      exact ⟨rfl, HB9.out⟩
theorem BinActs_walk (a : Nat → Addr) (v : Value) (l : List ActB) (hl : l.length ≤ maxLen) (hz : ∀ x ∈ l, x.kind.length ≤ maxLen ∧ x.s.length ≤ maxLen ∧ IdOk x.id) (w : World) (hv : ActRd w w.heap.size v l) (h : Sents a w) :
    Calls Tryd.prog 4 #[v] w fun e w' => e = .returned (.bool true) ∧ Below w.heap.size w w' := by
  cases hlong : longActsB l with
  | true => exact BinActs_long a v l hl (fun x hx => ⟨(hz x hx).1, (hz x hx).2.1⟩) hlong w hv h
  | false => exact BinActs_main a v l hl hz hlong w hv h
end Go.Proofs.YtbokckjlgjnnjaaDoor

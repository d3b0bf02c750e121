/- Walk of TapeCuts. Condition: the tables and the sentinels that are read lie as named (CutsW). -/
import Derived.Test.YtpacalklcdlhoaaDoorTape1
import Derived.Test.YtpacalklcdlhoaaDoorSame
import Derived.Maps.AppendAt
namespace Go.Proofs.YtpacalklcdlhoaaDoor
open Go.RowKit Go.Lib

structure CutsW (a : Nat → Addr) (W : World) : Prop where
  t : TapW W
  s : SomeS [1, 6, 11] a W
theorem own_lt {w : World} {base n size b : Nat} {e : TypeId} {v : Value} {xs : List Value} (h : w.ownsRow base e size v n xs) (hb : v.ownBlock = some b) : b < w.heap.size := by
  rcases h.2 with ⟨rfl, _⟩ | ⟨g, cap, cur, rfl, _, hh, _⟩
  · cases hb
  · cases hb; exact (Array.getElem?_eq_some_iff.1 hh).1
theorem ne_next {w : World} {base n size d g1 g2 : Nat} {e : TypeId} {v : Value} {xs : List Value} (hn : ∀ b, v.ownBlock = some b → b ≠ d ∧ b ≠ g1) (h : w.ownsRow base e size v n xs) (hg : g2 = g1 ∨ w.heap.size ≤ g2) : ∀ b, v.ownBlock = some b → b ≠ d ∧ b ≠ g2 := fun b hb => by
  have h1 := hn b hb
  have h2 := own_lt h hb
  rcases hg with h3 | h3
  · subst h3; exact h1
  · exact ⟨h1.1, by omega⟩
/-- the disk stands where another row grows -/
theorem DIn.grown {a : Nat → Addr} {W w w' : World} {d g base n : Nat} {s : DSt} {e : TypeId} {v : Value} {xs : List Value} {o : Obj} (h : DIn a W d g s w) (hr : w.ownsRow base e 1 v n xs) (hbase : W.heap.size ≤ base) (hn : ∀ b, v.ownBlock = some b → b ≠ d ∧ b ≠ g)
    (hg : (w.alloc o).grownBy w' v.ownBlock) : DIn a W d g s w' := by
  obtain ⟨v0, h0⟩ := h.is
  have k : ∀ x, x < w.heap.size → (∀ b, v.ownBlock = some b → b ≠ x) → w'.heap[x]? = w.heap[x]? := fun x hx hnx =>
    (hg.block x (by simp; omega) (fun e => hnx x e.symm rfl)).trans (heap_alloc_old w o hx)
  exact ⟨h.t, h.e, below_append h.b h.b.size (own_base hr hbase) hg, h.hd, h.hg, ⟨v0, h0.keep (k d h0.lt fun b hb => (hn b hb).1) (k g h0.buf.lt fun b hb => (hn b hb).2)⟩⟩
def one8 : Bytes := [111, 110, 101, 32, 109, 111, 114, 101]
theorem one8_rec : (recOf one8).length = 12 := by decide +kernel
/-- where the loop stands -/
structure CutSt' (l : List Bytes) (k : Nat) (s : DSt) (D : List Bytes) : Prop where
  kept : Kept s D
  len : s.b.length ≤ k * 212
  c0 : -1 ≤ s.cut
  c1 : s.cut ≤ 9223372036854775807
  many : D.length ≤ k
theorem CutSt'.next {l : List Bytes} {k : Nat} {s : DSt} {D : List Bytes} (h : CutSt' l k s D) (x : Bytes) (hx : x.length ≤ 200) : CutSt' l (k + 1) (apSt s x) (if apNo s x = 0 then D ++ [x] else D) := by
  have h1 := apSt_length s x (by omega)
  have h2 := apSt_cut s x h.c0 h.c1
  have h3 := h.len
  have h4 := h.many
  refine ⟨h.kept.append x (by omega), by omega, h2.1, h2.2, ?_⟩
  split
  · simp; omega
  · omega
set_option maxRecDepth 100000 in
set_option maxHeartbeats 4000000 in
theorem TapeCuts_walk (a : Nat → Addr) (v : Value) (l : List Bytes) (cut : Int) (hcut0 : -9223372036854775808 ≤ cut) (hcut : cut ≤ 9223372036854775807) (hl : l.length ≤ maxLen) (htx : ∀ x ∈ l, x.length ≤ maxLen) (W : World) (hv : Rd W W.heap.size v (l.map VT)) (hg : CutsW a W) :
    Calls Tryd.prog 4 #[v, .int .i64 cut] W fun e w' => e = .returned (.bool true) ∧ Below W.heap.size W w' := by
  obtain ⟨i0, hi, hz0, hz1, hz2⟩ := info_parts info_stringT
  obtain ⟨A, c, rfl, _, hc⟩ := hv
  rw [List.length_map]
  have HG := Lib.hid hg
  have HC := Lib.hid hc
  have hl63 : l.length ≤ 9223372036854775807 := by unfold maxLen at hl; omega
  have HTX := Lib.hid htx
  clear hg hc hl htx
  by_cases h30 : 30 < l.length
  · have h30i : (30 : Int) < (l.length : Int) := by omega
    go_enter Tryd.func4, Tryd.ntmps4
    go_wp2_with fail
    refine (taped_any a W HG.out.t HG.out.s).mono ?_
    rintro e w0 ⟨rfl, hb0⟩
    go_wp2
    go_ret
    exact ⟨rfl, hb0⟩
  · have h30i : ¬ (30 : Int) < (l.length : Int) := by omega
    by_cases hcn : cut < 0
    · go_enter Tryd.func4, Tryd.ntmps4
      go_wp2_with fail
      refine (taped_any a W HG.out.t HG.out.s).mono ?_
      rintro e w0 ⟨rfl, hb0⟩
      go_wp2
      go_ret
      exact ⟨rfl, hb0⟩
    · have hcn0 : 0 ≤ cut := by omega
      go_enter Tryd.func4, Tryd.ntmps4
      go_wp2_with fail
      refine (taped_any a W HG.out.t HG.out.s).mono ?_
      rintro e w0 ⟨rfl, hb0⟩
      go_wp2_with fail
      refine (NewDisk_ok ⟨#[]⟩ (by decide) w0).mono ?_
      rintro e w1 ⟨d, g, rfl, hdk, hd, hgg, hb1⟩
      have HB1 : Hid (Below W.heap.size W w1) := Lib.hid (hb0.trans (hb1.mono hb0.size))
      have HDK := Lib.hid hdk
      have HD : Hid (W.heap.size ≤ d ∧ W.heap.size ≤ g) := Lib.hid ⟨Nat.le_trans hb0.size hd, Nat.le_trans hb0.size hgg⟩
      clear hdk hb0 hb1 hd hgg
      go_wp2_with fail
      refine (TCut_any a d g [] false (-1) cut w1 HDK.out ((HG.out.s.below HB1.out).mono (by simp))).mono ?_
      rintro e w2 ⟨r, rfl, hr⟩
      have hr' : r = .nilIface ∧ DiskIs d g [] false cut w2 ∧ Two d g w1 w2 := by
        rcases hr with ⟨h, _⟩ | ⟨_, h, _⟩ | ⟨_, _, h1, h2, h3⟩
        · omega
        · cases h
        · exact ⟨h1, h2, h3⟩
      obtain ⟨rfl, hd2, ht2⟩ := hr'
      have HI2 : Hid (DIn a W d g ⟨[], false, cut⟩ w2) := Lib.hid ⟨HG.out.t, HG.out.s, HB1.out.trans (ht2.below HD.out.1 HD.out.2 HB1.out.size), HD.out.1, HD.out.2, hd2⟩
      have HST0 : Hid (CutSt' l 0 ⟨[], false, cut⟩ []) := Lib.hid ⟨Kept.start cut, Nat.zero_le _, by simp only; omega, hcut, Nat.zero_le _⟩
      clear hr hd2 ht2 HDK HB1
      go_wp2
      go_loopg [8, 9] l.length (fun gh vd vi wr => ∃ (k g1 : Nat) (s : DSt) (D : List Bytes), vi = .int .i64 k ∧ k ≤ l.length ∧ gh = l.length - k ∧ Hid (CutSt' l k s D) ∧ Hid (DIn a W d g1 s wr) ∧ Hid (wr.ownsRow W.heap.size 9 1 vd D.length (D.map VT)) ∧ Hid (∀ b, vd.ownBlock = some b → b ≠ d ∧ b ≠ g1))
      case atStart => exact ⟨0, g, _, [], rfl, Nat.zero_le _, rfl, HST0, HI2, Lib.hid (World.ownsRow_nil _ _ _ _), Lib.hid (fun b h => by cases h)⟩
      case round =>
        obtain ⟨k, g1, s, D, rfl, hk, hgm, hst, hin, hrow, hne⟩ := hrel
        by_cases hkl : k < l.length
        · obtain ⟨gb, o, rfl, hgb, hcells⟩ := HC.out (map_ne hkl)
          have c1 : wr.cell? ⟨gb, o + k, none⟩ = some (.string (bs l[k])) := (hin.out.b.cell hgb).trans (hcells k _ (by simp [hkl]))
          have HCELLS := Lib.hid hcells
          have b1 : (0 : Int) ≤ (k : Int) := by omega
          have b2 : (k : Int) < (l.length : Int) := by omega
          have hxm : (bs l[k]).size ≤ 9223372036854775807 := by
            have := HTX.out l[k] (List.getElem_mem hkl)
            unfold maxLen at this
            rw [bs_size]; omega
          clear hcells
          by_cases h200 : 200 < l[k].length
          · have h200i : (200 : Int) < ((bs l[k]).size : Int) := by rw [bs_size]; omega
            have HIN := Lib.hid hin.out.b
            go_wp2
            go_ret
            exact ⟨rfl, HIN.out⟩
          · have h200i : ¬ (200 : Int) < ((bs l[k]).size : Int) := by rw [bs_size]; omega
            have hx30 : (bs l[k]).size ≤ 2 ^ 30 := by rw [bs_size]; omega
            have HX30 := Lib.hid hx30
            have HN := Lib.hid (hst.out.next l[k] (by omega))
            have hbl : s.b.length ≤ 2 ^ 30 := by have := hst.out.len; omega
            have HBL := Lib.hid hbl
            generalize hX : l[k] = X at *
            clear h200 hx30 hbl
            go_wp2_with fail
            refine (TAppend_any a W d g1 s (bs X) wr hin.out HX30.out HBL.out hst.out.c1 (by have := hst.out.c0; omega)).mono ?_
            rintro e w3 ⟨r, rfl, hr, hp⟩
            rw [bs_toList] at hr hp
            obtain ⟨g2, hin3, hg2, ht3⟩ := hin.out.post hp
            have c1' : w3.cell? ⟨gb, o + k, none⟩ = some (.string (bs X)) := by
              rw [← hX]
              exact (hin3.b.cell hgb).trans (HCELLS.out k _ (by simp [hkl]))
            have hrow3 := own_two hrow.out hne.out ht3
            have hne3 := ne_next hne.out hrow.out hg2
            have HI3 := Lib.hid hin3
            have HNE3 := Lib.hid hne3
            clear hin3 hp ht3 hne3 hg2 c1
            by_cases h0 : apNo s X = 0
            · have hr' : r = .nilIface := by rw [hr]; exact if_pos h0
              subst hr'
              have HN' : Hid (CutSt' l (k + 1) (apSt s X) (D ++ [X])) := Lib.hid (by have := HN.out; rw [if_pos h0] at this; exact this)
              have hDl : D.length ≤ 30 := by have := hst.out.many; omega
              clear hr HN h0 hst
              have hsz3 := HI3.out.b.size
              go_wp2_with (first | (at_builtin; refine wpList_append_own_at _ rfl (.tmp 60) (.tmp 65) 37 rfl W.heap.size 9 i0 (.string ByteArray.empty) 1 16 Tryd.underlying37 hi hz0 hz1 hz2 rfl (by decide) _ _ _ rfl (hrow3.alloc _) ⟨w3.heap.size, 0, none⟩ 1 1 [.string (bs X)] rfl rfl (cell_one_new _ _ _) (by simp [Value.oneCell']) (by unfold maxLen; omega) (by omega) (by simp; omega) ?_; intro v5 w5 ho5 hg5 _ hob5) | fail)
              go_roundg (l.length - (k + 1))
              case measure => omega
              case rel => exact ⟨k + 1, g2, _, D ++ [X], by go_num, hkl, rfl, HN', Lib.hid (HI3.out.grown hrow3 (Nat.le_refl _) HNE3.out hg5), Lib.hid (vt_snocT ho5), Lib.hid (fun b hb => by
                rcases hob5 with e | e
                · exact HNE3.out b (Eq.trans (Eq.symm e) hb)
                · have hb := Eq.trans (Eq.symm e) hb
                  obtain ⟨v0, h0⟩ := HI3.out.is
                  have h1 := h0.lt
                  have h2 := h0.buf.lt
                  simp at hb
                  omega)⟩
            · have hr' : r = sval a (apNo s X) := by rw [hr]; exact if_neg h0
              have HN' : Hid (CutSt' l (k + 1) (apSt s X) D) := Lib.hid (by have := HN.out; rw [if_neg h0] at this; exact this)
              unfold sval at hr'
              subst hr'
              have HR3 := Lib.hid hrow3
              clear hr HN h0 hst hrow3
              go_wp2
              go_roundg (l.length - (k + 1))
              case measure => omega
              case rel => exact ⟨k + 1, g2, _, D, by go_num, hkl, rfl, HN', HI3, HR3, HNE3⟩
        · obtain rfl : k = l.length := by omega
          have hbl : s.b.length ≤ 6400 := by have := hst.out.len; omega
          obtain ⟨A8, c8, h8, _, _⟩ := Rd.own hrow.out
          rw [List.length_map] at h8
          subst h8
          go_wp2_with fail
          refine (TRecover_any a W d g1 s wr hin.out (by omega)).mono ?_
          rintro e w3 ⟨vr, rfl, hrow3, hob3, hp3⟩
          have hread := hst.out.kept.read
          have hDm : D.length ≤ 30 := by have := hst.out.many; omega
          rw [hread] at hrow3
          rw [hst.out.kept.recover] at hp3
          obtain ⟨g3, hin3, _, ht3⟩ := hin.out.post hp3
          have hsmall : ∀ x ∈ D, x.length ≤ 40000 := by obtain ⟨_, _, _, _, h4⟩ := hst.out.kept; exact h4
          have hrl : (recsOf D).length ≤ 6400 := by
            obtain ⟨t, h1, _⟩ := hst.out.kept
            have := congrArg List.length h1
            rw [List.length_append] at this; omega
          have hrd1 := Rd.own hrow3
          have hrd2 := Rd.own (own_two hrow.out hne.out ht3)
          have hsb : w3.heap.size = w3.heap.size := rfl
          have HI3 := Lib.hid hin3
          have HROW := Lib.hid (own_two hrow.out hne.out ht3)
          have HSM := Lib.hid hsmall
          have HRL := Lib.hid hrl
          have HR1 := Lib.hid hrd1
          have HR2 := Lib.hid hrd2
          clear hin3 ht3 hp3 hread hst hsmall hrl hrow3 hob3 hrd1 hrd2 hrow hne hin hsb hbl
          go_wp2_with fail
          refine (SameTexts_any vr _ D D w3.heap.size w3 HR1.out HR2.out (by omega) (by omega)).mono ?_
          rintro e w4 ⟨rfl, q, rfl⟩
          have hdt : decide (D = D) = true := by simp
          rw [hdt]
          have HI4 : Hid (DIn a W d g3 ⟨recsOf D, false, -1⟩ (w3.drewN q)) := Lib.hid (HI3.out.below (below_drewN (Below.refl _ _) q))
          have HROW4 : Hid ((w3.drewN q).ownsRow W.heap.size 9 1 _ D.length (D.map VT)) := Lib.hid (own_below HROW.out (below_drewN (Below.refl _ _) q))
          clear hdt HI3 HROW HR1 HR2
          generalize w3.drewN q = w4 at *
          go_wp2_with fail
          refine (TPower_any d g3 (recsOf D) false (-1) w4 HI4.out.is).mono ?_
          rintro e w5 ⟨rfl, rfl⟩
          have hone := one8_rec
          have hlen8 : one8.length = 8 := rfl
          have hno : apNo ⟨recsOf D, false, -1⟩ one8 = 0 := apNo_on _ _ (by omega) (by have := HRL.out; omega)
          have hso : apSt ⟨recsOf D, false, -1⟩ one8 = ⟨recsOf D ++ recOf one8, false, -1⟩ := apSt_on _ _ (by omega) (by have := HRL.out; omega)
          have HNO := Lib.hid hno
          have HSO := Lib.hid hso
          obtain ⟨T, hT⟩ : ∃ T, T = bs (recsOf D ++ recOf one8) := ⟨_, rfl⟩
          have hTl : T.data.toList = recsOf D ++ recOf one8 := by rw [hT, bs_toList]
          have hTs : T.size ≤ 2 ^ 30 := by rw [size_toList, hTl, List.length_append]; have := HRL.out; omega
          have READ : Hid (∀ w', TapW w' → Calls Tryd.prog 23 #[.string T] w' fun e w2 => ∃ gx ox cx, e = .returned (.tuple #[.slice (some ⟨gx, ox, none⟩) (D.length + 1) cx, .int .i64 (T.size : Int)]) ∧ w2.cell? ⟨gx, ox + D.length, none⟩ = some (.string ⟨#[111, 110, 101, 32, 109, 111, 114, 101]⟩) ∧ Below w'.heap.size w' w2) := Lib.hid fun w' ht => (Read_any T hTs w' ht).mono fun e w2 hh => by
            obtain ⟨vx, rfl, hrx, hbx⟩ := hh
            have hra : readAll T.data.toList = D ++ [one8] := by rw [hTl]; exact readAll_snoc HSM.out one8 (by omega)
            have hrs : recsOf (D ++ [one8]) = recsOf D ++ recOf one8 := by rw [recsOf_append]; simp [recsOf]
            rw [hra] at hrx ⊢
            rw [hrs, ← hTl, ← size_toList]
            obtain ⟨Ax, cx, rfl, _, hcx⟩ := Rd.own hrx
            obtain ⟨gx, ox, rfl, _, hcells⟩ := hcx (by simp)
            refine ⟨gx, ox, cx, by simp, ?_, hbx⟩
            exact hcells D.length _ (by simp; rfl)
          clear hno hso hTl hTs hone hlen8
          have BYTES : Hid (∀ (g5 : Nat) (w' : World), DiskIs d g5 (recsOf D ++ recOf one8) false (-1) w' → Calls Tryd.prog 24 #[.pointer (some ⟨d, 0, none⟩)] w' fun e w2 => e = .returned (.string T) ∧ w' = w2) := Lib.hid fun g5 w' h => by rw [hT]; exact TBytes_any d g5 _ false (-1) w' h
          have HT8 : Hid (T.size ≤ 2 ^ 40) := Lib.hid (by rw [hT, bs_size, List.length_append]; have := HRL.out; have := one8_rec; omega)
          have hT8 := HT8.out
          clear hT
          go_wp2_with fail
          refine (TAppend_any a W d g3 ⟨recsOf D, false, -1⟩ ⟨#[111, 110, 101, 32, 109, 111, 114, 101]⟩ w4 HI4.out (by decide) (by have := HRL.out; simp only; omega) (by simp only; omega) (by simp only; omega)).mono ?_
          rintro e w6 ⟨r, rfl, hr, hp⟩
          have hr' : r = .nilIface := by rw [hr]; exact if_pos HNO.out
          subst hr'
          have hp' : DPost d g3 ⟨recsOf D ++ recOf one8, false, -1⟩ w4 w6 := HSO.out ▸ hp
          obtain ⟨g5, hin6, _, _⟩ := HI4.out.post hp'
          have HI6 := Lib.hid hin6
          clear hr hp hp' hin6
          go_wp2_with fail
          refine (BYTES.out g5 w6 HI6.out.is).mono ?_
          rintro e w7 ⟨rfl, rfl⟩
          go_wp2_with fail
          refine (READ.out w6 HI6.out.tap).mono ?_
          rintro e w8 ⟨gx, ox, cx, rfl, hcx, hb8⟩
          have HI8 := Lib.hid (HI6.out.below hb8)
          clear hb8
          go_wp2_with fail
          refine (BYTES.out g5 w8 HI8.out.is).mono ?_
          rintro e w9 ⟨rfl, rfl⟩
          go_wp2
          go_ret
          exact ⟨rfl, HI8.out.b⟩
end Go.Proofs.YtpacalklcdlhoaaDoor

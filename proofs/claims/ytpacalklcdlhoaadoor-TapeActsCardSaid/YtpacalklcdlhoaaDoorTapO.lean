/- Walk of TapeActs. Condition: the tables and the sentinels lie as named (ActsW). -/
import Derived.Test.YtpacalklcdlhoaaDoorActs1
import Derived.Test.YtpacalklcdlhoaaDoorHeldN
namespace Go.Proofs.YtpacalklcdlhoaaDoor
open Go.RowKit Go.Lib

theorem own_one {w w' : World} {base n size m : Nat} {e : TypeId} {v : Value} {xs : List Value} (h : w.ownsRow base e size v n xs) (hm : m < base) (k : Two m m w w') : w'.ownsRow base e size v n xs :=
  own_two h (fun b hb => by have := own_ge h hb; constructor <;> omega) k
set_option maxRecDepth 100000 in
set_option maxHeartbeats 8000000 in
theorem TapeActs_walk (a : Nat → Addr) (t : ByteArray) (v : Value) (l : List Wr) (ht : t.size ≤ maxLen) (hl : l.length ≤ maxLen) (htx : ∀ x ∈ l, x.kind.length ≤ maxLen ∧ x.s.length ≤ maxLen ∧ -9223372036854775808 ≤ x.n ∧ x.n ≤ 9223372036854775807) (W : World) (hv : WrRd W W.heap.size v l) (hg : ActsW a W) :
    Calls Tryd.prog 6 #[.string t, v] W fun e w' => e = .returned (.bool true) ∧ Below W.heap.size W w' := by
  obtain ⟨A, c, rfl, _, hc⟩ := hv
  have HG := Lib.hid hg
  have HC := Lib.hid hc
  have HTX := Lib.hid htx
  have hl63 : l.length ≤ 9223372036854775807 := by unfold maxLen at hl; omega
  have ht63 : t.size ≤ 9223372036854775807 := by unfold maxLen at ht; omega
  have HS3 := Lib.hid (hg.e.someS [1, 6, 11] (by decide))
  clear hg hc hl htx ht
  by_cases h2000 : 2000 < t.size
  · have h1i : (2000 : Int) < (t.size : Int) := by omega
    go_enter Tryd.func6, Tryd.ntmps6
    go_wp2_with fail
    refine (taped_any a W HG.out.t HS3.out).mono ?_
    rintro e w0 ⟨rfl, hb0⟩
    go_wp2
    go_ret
    exact ⟨rfl, hb0⟩
  have h1i : ¬ (2000 : Int) < (t.size : Int) := by omega
  by_cases h50 : 50 < l.length
  · have h2i : (50 : Int) < (l.length : Int) := by omega
    go_enter Tryd.func6, Tryd.ntmps6
    go_wp2_with fail
    refine (taped_any a W HG.out.t HS3.out).mono ?_
    rintro e w0 ⟨rfl, hb0⟩
    go_wp2
    go_ret
    exact ⟨rfl, hb0⟩
  have h2i : ¬ (50 : Int) < (l.length : Int) := by omega
  have HT := Lib.hid (size_toList t)
  go_enter Tryd.func6, Tryd.ntmps6
  go_wp2_with fail
  refine (taped_any a W HG.out.t HS3.out).mono ?_
  rintro e w0 ⟨rfl, hb0⟩
  go_wp2_with fail
  refine (NewDisk_ok t (by omega) w0).mono ?_
  rintro e w1 ⟨d, g, rfl, hdk, hd, hgg, hb1⟩
  have hdl : d < w1.heap.size := by obtain ⟨v0, h0⟩ := hdk; exact h0.lt
  have hgl : g < w1.heap.size := by obtain ⟨v0, h0⟩ := hdk; exact h0.buf.lt
  have hA0 : Hid (ActIn a W d g w1.heap.size ⟨t.data.toList, false, -1⟩ (w1.alloc (.cells #[.string t, .bool false, .int .i64 (-1)] 60))) := Lib.hid (by
    have hB1 := hb0.trans (hb1.mono hb0.size)
    have hB2 : Below w1.heap.size w1 (w1.alloc (.cells #[.string t, .bool false, .int .i64 (-1)] 60)) := (Below.refl _ _).alloc (Nat.le_refl _) _
    refine ⟨⟨HG.out.t, HS3.out, hB1.trans (hB2.mono hB1.size), Nat.le_trans hb0.size hd, Nat.le_trans hb0.size hgg, DiskIs.below hdk hB2⟩, ?_, by omega, by omega, hB1.size⟩
    have := heap_alloc_new w1 (.cells #[.string t, .bool false, .int .i64 (-1)] 60)
    exact this)
  have hst0 : Hid (ActSt 0 ⟨t.data.toList, false, -1⟩) := Lib.hid ⟨by simp only; rw [← HT.out]; omega, by simp only; omega, by simp only; omega⟩
  clear hdk hd hgg hb1 hb0 hdl hgl
  go_wp2
  generalize w1.alloc (.cells #[.string t, .bool false, .int .i64 (-1)] 60) = w2 at *
  generalize w1.heap.size = m at *
  generalize (⟨t.data.toList, false, -1⟩ : DSt) = s0 at *
  go_loopg [9] l.length (fun gh vi wr => ∃ (k gx : Nat) (s : DSt), vi = .int .i64 k ∧ k ≤ l.length ∧ gh = l.length - k ∧ Hid (ActIn a W d gx m s wr) ∧ Hid (ActSt k s))
  case atStart => exact ⟨0, g, s0, rfl, Nat.zero_le _, rfl, hA0, hst0⟩
  case round =>
    clear hA0 hst0
    obtain ⟨k, gx, s, rfl, hk, hgm, hin, hst⟩ := hrel
    have HBL : Hid (s.b.length ≤ 2 ^ 30) := Lib.hid (by have := hst.out.len; omega)
    by_cases hkl : k < l.length
    · obtain ⟨gb, o, rfl, hgb, hcells⟩ := HC.out (by omega)
      obtain ⟨hc0, hc1, hc2⟩ := hcells k hkl
      replace hc0 := (hin.out.din.b.cell (p := ⟨gb, o + k * 3, none⟩) hgb).trans hc0
      replace hc1 := (hin.out.din.b.cell (p := ⟨gb, o + k * 3 + 1, none⟩) hgb).trans hc1
      replace hc2 := (hin.out.din.b.cell (p := ⟨gb, o + k * 3 + 2, none⟩) hgb).trans hc2
      have b1 : (0 : Int) ≤ (k : Int) := by omega
      have b2 : (k : Int) < (l.length : Int) := by omega
      obtain ⟨hx0, hx1, hx2, hx3⟩ := HTX.out l[k] (List.getElem_mem hkl)
      generalize l[k].kind = KD at *
      generalize l[k].s = X at *
      generalize l[k].n = n at *
      have hn63 : n ≤ 9223372036854775807 := hx3
      have hxm : (bs X).size ≤ 9223372036854775807 := by
        unfold maxLen at hx1
        rw [bs_size]; omega
      clear hcells hx0 hx1
      by_cases hX : X.length ≤ 200
      · have hXi : ¬ (200 : Int) < ((bs X).size : Int) := by rw [bs_size]; omega
        have hX01 : X.length ≤ 200 ∨ X.length = 40001 := .inl hX
        have HX30 : Hid ((bs X).size ≤ 2 ^ 30) := Lib.hid (by rw [bs_size]; omega)
        clear hX
        by_cases k1 : KD = [97, 112, 112, 101, 110, 100]
        · have k1i : ((bs KD).toList == [97, 112, 112, 101, 110, 100]) = true := by rw [k1, bs_list]; rfl
          clear k1
          obtain ⟨cd, hcd⟩ : ∃ cd, cd = apCode s X := ⟨_, rfl⟩
          obtain ⟨s5, hs5⟩ : ∃ s5, s5 = apSt s X := ⟨_, rfl⟩
          have HCD : Hid (∀ w', Sents a w' → ErrV a (errOf a (apNo s X)) cd (-1) w') := Lib.hid (fun w' h => by rw [hcd]; exact errV_ap h s X)
          have HN5 : Hid (ActSt (k + 1) s5) := Lib.hid (by rw [hs5]; exact hst.out.append X hX01)
          have TAP : Hid (∀ w', DIn a W d gx s w' → Calls Tryd.prog 19 #[.pointer (some ⟨d, 0, none⟩), .string (bs X)] w' fun e w'' => ∃ r, e = .returned r ∧ r = errOf a (apNo s X) ∧ DPost d gx s5 w' w'') := Lib.hid (fun w' h => by
            have := TAppend_any a W d gx s (bs X) w' h HX30.out HBL.out hst.out.c1 (by have := hst.out.c0; omega)
            rw [bs_toList] at this
            rw [hs5]; exact this)
          have RTA : Hid (∀ w', MAt m s w' → Calls Tryd.prog 31 #[.pointer (some ⟨m, 0, none⟩), .string (bs X)] w' fun e w'' => e = .returned (.int .i64 cd) ∧ MPost m s5 w' w'') := Lib.hid (fun w' h => by
            have := RTAppend_any m s (bs X) HX30.out HBL.out hst.out.c1 (by have := hst.out.c0; omega) w' h
            rw [bs_toList] at this
            rw [hs5, hcd]; exact this)
          generalize apNo s X = no at *
          clear hcd hs5
          go_wp2
          have hAa := hin.out.below ((Below.refl _ _).alloc (Nat.le_refl _) (.cells #[.string (bs KD), .string (bs X), .int .i64 n] 62))
          have hARa : ARow wr.heap.size KD X n (wr.alloc (.cells #[.string (bs KD), .string (bs X), .int .i64 n] 62)) := heap_alloc_new wr _
          have hba : wr.heap.size ≠ d ∧ wr.heap.size ≠ gx ∧ wr.heap.size ≠ m := by
            obtain ⟨v0, h0⟩ := hin.out.din.is
            have h1 := h0.lt
            have h2 := h0.buf.lt
            have h3 := hin.out.tp.lt
            omega
          generalize wr.alloc (.cells #[.string (bs KD), .string (bs X), .int .i64 n] 62) = wa at *
          generalize wr.heap.size = ba at *
          have HAa := Lib.hid hAa
          have HARa := Lib.hid hARa
          clear hAa hARa hin
          have hS0 : ARow ba KD X n wa.drew := HARa.out
          refine region_S (fun w' => ARow ba KD X n w') 9 (by kernel_rfl) (by kernel_rfl) ?_
          refine take_S 0 rfl (by kernel_rfl) (by kernel_rfl) hS0 (fun w' hS => by have B0 := (ARow.cells hS).1; have B1 := (ARow.cells hS).2.1; have B2 := (ARow.cells hS).2.2; go_simp; rfl) ?_
          try simp only [Act.put, List.getElem_toArray, List.getElem_cons_succ, List.getElem_cons_zero, List.setIfInBounds_toArray, List.set_cons_zero, List.set_cons_succ]
          refine take_S 1 rfl (by kernel_rfl) (by kernel_rfl) hS0 (fun w' hS => by have B0 := (ARow.cells hS).1; have B1 := (ARow.cells hS).2.1; have B2 := (ARow.cells hS).2.2; go_simp; rfl) ?_
          try simp only [Act.put, List.getElem_toArray, List.getElem_cons_succ, List.getElem_cons_zero, List.setIfInBounds_toArray, List.set_cons_zero, List.set_cons_succ]
          refine take_S 2 rfl (by kernel_rfl) (by kernel_rfl) hS0 (fun w' hS => by have B0 := (ARow.cells hS).1; have B1 := (ARow.cells hS).2.1; have B2 := (ARow.cells hS).2.2; go_simp; rfl) ?_
          try simp only [Act.put, List.getElem_toArray, List.getElem_cons_succ, List.getElem_cons_zero, List.setIfInBounds_toArray, List.set_cons_zero, List.set_cons_succ]
          refine take_S 4 rfl (by kernel_rfl) (by kernel_rfl) hS0 (fun w' hS => by have B0 := (ARow.cells hS).1; have B1 := (ARow.cells hS).2.1; have B2 := (ARow.cells hS).2.2; go_simp; rfl) ?_
          try simp only [Act.put, List.getElem_toArray, List.getElem_cons_succ, List.getElem_cons_zero, List.setIfInBounds_toArray, List.set_cons_zero, List.set_cons_succ]
          refine take_S 5 rfl (by kernel_rfl) (by kernel_rfl) hS0 (fun w' hS => by have B0 := (ARow.cells hS).1; have B1 := (ARow.cells hS).2.1; have B2 := (ARow.cells hS).2.2; go_simp; rfl) ?_
          try simp only [Act.put, List.getElem_toArray, List.getElem_cons_succ, List.getElem_cons_zero, List.setIfInBounds_toArray, List.set_cons_zero, List.set_cons_succ]
          refine take_S 6 rfl (by kernel_rfl) (by kernel_rfl) hS0 (fun w' hS => by have B0 := (ARow.cells hS).1; have B1 := (ARow.cells hS).2.1; have B2 := (ARow.cells hS).2.2; go_simp; rfl) ?_
          try simp only [Act.put, List.getElem_toArray, List.getElem_cons_succ, List.getElem_cons_zero, List.setIfInBounds_toArray, List.set_cons_zero, List.set_cons_succ]
          refine carry_S 3 rfl (by kernel_rfl) (by decide) (by kernel_rfl) (fun K hK => ?_)
          go_simp
          refine (TAP.out wa.drew (HAa.out.din.below (Below.refl _ _).drew)).mono ?_
          rintro e w3 ⟨r, rfl, hr, hp⟩
          have HR := Lib.hid hr
          clear hr
          obtain ⟨g5, hin3, hm3, hmg3, ht3⟩ := (HAa.out.below (Below.refl _ _).drew).disk hp
          have hS3 : ARow ba KD X n w3 := hS0.two ht3 hba.1 hba.2.1
          refine hK _ _ hS3 ?_
          clear hK K
          try simp only [Act.put, List.getElem_toArray, List.getElem_cons_succ, List.getElem_cons_zero, List.setIfInBounds_toArray, List.set_cons_zero, List.set_cons_succ]
          refine carry_S 7 rfl (by kernel_rfl) (by decide) (by kernel_rfl) (fun K hK => ?_)
          go_simp
          refine (RTA.out w3 hm3).mono ?_
          rintro e w4 ⟨rfl, hp4⟩
          have hin4 := ActIn.both hin3 HAa.out.md hmg3 HAa.out.mW hp4
          have hS4 : ARow ba KD X n w4 := hS3.two hp4.2 hba.2.2 hba.2.2
          refine hK _ _ hS4 ?_
          clear hK K
          try simp only [Act.put, List.getElem_toArray, List.getElem_cons_succ, List.getElem_cons_zero, List.setIfInBounds_toArray, List.set_cons_zero, List.set_cons_succ]
          refine carry_S 8 rfl (by kernel_rfl) (by decide) (by kernel_rfl) (fun K hK => ?_)
          go_simp
          have he4 : ErrV a r cd (-1) w4 := by rw [HR.out]; exact HCD.out w4 (HG.out.e.below hin4.din.b)
          refine (coded3_any a r cd cd (-1) w4 (HG.out.e.below hin4.din.b) he4).mono ?_
          rintro e w5 ⟨rfl, hb5⟩
          rw [codedB_same]
          have hS5 := hS4.below hb5
          refine hK _ _ hS5 ?_
          clear hK K
          try simp only [Act.put, List.getElem_toArray, List.getElem_cons_succ, List.getElem_cons_zero, List.setIfInBounds_toArray, List.set_cons_zero, List.set_cons_succ]
          refine forced_S (by kernel_rfl) ?_
          simp only [List.drop_succ_cons, List.drop_zero]
          have HA5 := Lib.hid (hin4.below hb5)
          clear hS0 hS3 hS4 hS5 HR hp hin3 hm3 hmg3 ht3 hp4 hin4 he4 hb5 HAa HARa hst HCD TAP RTA
          go_wp2
          have hS0 : Below w5.heap.size w5 w5.drew := (Below.refl _ _).drew
          have hpo : ((!s5.off) == s5.off) = false := by cases s5.off <;> rfl
          refine region_S (fun w' => Below w5.heap.size w5 w') 15 (by kernel_rfl) (by kernel_rfl) ?_
          refine take_S 0 rfl (by kernel_rfl) (by kernel_rfl) hS0 (fun w' hS => by go_simp; rfl) ?_
          try simp only [Act.put, List.getElem_toArray, List.getElem_cons_succ, List.getElem_cons_zero, List.setIfInBounds_toArray, List.set_cons_zero, List.set_cons_succ]
          refine take_S 2 rfl (by kernel_rfl) (by kernel_rfl) hS0 (fun w' hS => by go_simp; rfl) ?_
          try simp only [Act.put, List.getElem_toArray, List.getElem_cons_succ, List.getElem_cons_zero, List.setIfInBounds_toArray, List.set_cons_zero, List.set_cons_succ]
          refine take_S 3 rfl (by kernel_rfl) (by kernel_rfl) hS0 (fun w' hS => by go_simp; rfl) ?_
          try simp only [Act.put, List.getElem_toArray, List.getElem_cons_succ, List.getElem_cons_zero, List.setIfInBounds_toArray, List.set_cons_zero, List.set_cons_succ]
          refine take_S 4 rfl (by kernel_rfl) (by kernel_rfl) hS0 (fun w' hS => by go_simp; rfl) ?_
          try simp only [Act.put, List.getElem_toArray, List.getElem_cons_succ, List.getElem_cons_zero, List.setIfInBounds_toArray, List.set_cons_zero, List.set_cons_succ]
          refine take_S 5 rfl (by kernel_rfl) (by kernel_rfl) hS0 (fun w' hS => by have c0 := (HA5.out.tp.below hS).cells.1; have c1 := (HA5.out.tp.below hS).cells.2.1; go_simp; rfl) ?_
          try simp only [Act.put, List.getElem_toArray, List.getElem_cons_succ, List.getElem_cons_zero, List.setIfInBounds_toArray, List.set_cons_zero, List.set_cons_succ]
          refine carry_S 1 rfl (by kernel_rfl) (by decide) (by kernel_rfl) (fun K hK => ?_)
          go_simp
          refine (TBytes_any d g5 s5.b s5.off s5.cut w5.drew (DiskIs.below HA5.out.din.is hS0)).mono ?_
          rintro e x ⟨rfl, rfl⟩
          refine hK _ _ hS0 ?_
          clear hK K
          try simp only [Act.put, List.getElem_toArray, List.getElem_cons_succ, List.getElem_cons_zero, List.setIfInBounds_toArray, List.set_cons_zero, List.set_cons_succ]
          refine take_S (v := .bool false) 6 rfl (by kernel_rfl) (by kernel_rfl) hS0 (fun w' hS => by go_simp) ?_
          try simp only [Act.put, List.getElem_toArray, List.getElem_cons_succ, List.getElem_cons_zero, List.setIfInBounds_toArray, List.set_cons_zero, List.set_cons_succ]
          refine take_S 7 rfl (by kernel_rfl) (by kernel_rfl) hS0 (fun w' hS => by go_simp; rfl) ?_
          try simp only [Act.put, List.getElem_toArray, List.getElem_cons_succ, List.getElem_cons_zero, List.setIfInBounds_toArray, List.set_cons_zero, List.set_cons_succ]
          refine take_S 8 rfl (by kernel_rfl) (by kernel_rfl) hS0 (fun w' hS => by go_simp; rfl) ?_
          try simp only [Act.put, List.getElem_toArray, List.getElem_cons_succ, List.getElem_cons_zero, List.setIfInBounds_toArray, List.set_cons_zero, List.set_cons_succ]
          refine take_S 10 rfl (by kernel_rfl) (by kernel_rfl) hS0 (fun w' hS => by go_simp; rfl) ?_
          try simp only [Act.put, List.getElem_toArray, List.getElem_cons_succ, List.getElem_cons_zero, List.setIfInBounds_toArray, List.set_cons_zero, List.set_cons_succ]
          refine take_S 11 rfl (by kernel_rfl) (by kernel_rfl) hS0 (fun w' hS => by go_simp; rfl) ?_
          try simp only [Act.put, List.getElem_toArray, List.getElem_cons_succ, List.getElem_cons_zero, List.setIfInBounds_toArray, List.set_cons_zero, List.set_cons_succ]
          refine take_S 12 rfl (by kernel_rfl) (by kernel_rfl) hS0 (fun w' hS => by go_simp; rfl) ?_
          try simp only [Act.put, List.getElem_toArray, List.getElem_cons_succ, List.getElem_cons_zero, List.setIfInBounds_toArray, List.set_cons_zero, List.set_cons_succ]
          refine take_S 13 rfl (by kernel_rfl) (by kernel_rfl) hS0 (fun w' hS => by have c0 := (HA5.out.tp.below hS).cells.1; have c1 := (HA5.out.tp.below hS).cells.2.1; go_simp; rfl) ?_
          try simp only [Act.put, List.getElem_toArray, List.getElem_cons_succ, List.getElem_cons_zero, List.setIfInBounds_toArray, List.set_cons_zero, List.set_cons_succ]
          refine carry_S 9 rfl (by kernel_rfl) (by decide) (by kernel_rfl) (fun K hK => ?_)
          go_simp
          refine (TPower_any d g5 s5.b s5.off s5.cut w5.drew (DiskIs.below HA5.out.din.is hS0)).mono ?_
          rintro e x ⟨rfl, rfl⟩
          refine hK _ _ hS0 ?_
          clear hK K
          try simp only [Act.put, List.getElem_toArray, List.getElem_cons_succ, List.getElem_cons_zero, List.setIfInBounds_toArray, List.set_cons_zero, List.set_cons_succ]
          refine take_S (v := .bool false) 14 rfl (by kernel_rfl) (by kernel_rfl) hS0 (fun w' hS => by go_simp) ?_
          try simp only [Act.put, List.getElem_toArray, List.getElem_cons_succ, List.getElem_cons_zero, List.setIfInBounds_toArray, List.set_cons_zero, List.set_cons_succ]
          refine forced_S (by kernel_rfl) ?_
          simp only [List.drop_succ_cons, List.drop_zero]
          have HA6 := Lib.hid (HA5.out.below hS0)
          clear hS0 HA5
          go_wp2
          go_roundg (l.length - (k + 1))
          case measure => omega
          case rel => exact ⟨k + 1, g5, s5, by go_num, hkl, rfl, HA6, HN5⟩
        · have k1i : ((bs KD).toList == [97, 112, 112, 101, 110, 100]) = false := by rw [bs_list]; exact beq_eq_false_iff_ne.2 k1
          by_cases k2 : KD = [99, 117, 116]
          · have k2i : ((bs KD).toList == [99, 117, 116]) = true := by rw [k2, bs_list]; rfl
            clear k1 k2
            go_wp2
            have hAa := hin.out.below ((Below.refl _ _).alloc (Nat.le_refl _) (.cells #[.string (bs KD), .string (bs X), .int .i64 n] 62))
            have hARa : ARow wr.heap.size KD X n (wr.alloc (.cells #[.string (bs KD), .string (bs X), .int .i64 n] 62)) := heap_alloc_new wr _
            have hba : wr.heap.size ≠ d ∧ wr.heap.size ≠ gx ∧ wr.heap.size ≠ m := by
              obtain ⟨v0, h0⟩ := hin.out.din.is
              have h1 := h0.lt
              have h2 := h0.buf.lt
              have h3 := hin.out.tp.lt
              omega
            generalize wr.alloc (.cells #[.string (bs KD), .string (bs X), .int .i64 n] 62) = wa at *
            generalize wr.heap.size = ba at *
            have HAa := Lib.hid hAa
            have HARa := Lib.hid hARa
            clear hAa hARa hin
            have hS0 : ARow ba KD X n wa.drew := HARa.out
            refine region_S (fun w' => ARow ba KD X n w') 9 (by kernel_rfl) (by kernel_rfl) ?_
            refine take_S 0 rfl (by kernel_rfl) (by kernel_rfl) hS0 (fun w' hS => by have B0 := (ARow.cells hS).1; have B1 := (ARow.cells hS).2.1; have B2 := (ARow.cells hS).2.2; go_simp; rfl) ?_
            try simp only [Act.put, List.getElem_toArray, List.getElem_cons_succ, List.getElem_cons_zero, List.setIfInBounds_toArray, List.set_cons_zero, List.set_cons_succ]
            refine take_S 1 rfl (by kernel_rfl) (by kernel_rfl) hS0 (fun w' hS => by have B0 := (ARow.cells hS).1; have B1 := (ARow.cells hS).2.1; have B2 := (ARow.cells hS).2.2; go_simp; rfl) ?_
            try simp only [Act.put, List.getElem_toArray, List.getElem_cons_succ, List.getElem_cons_zero, List.setIfInBounds_toArray, List.set_cons_zero, List.set_cons_succ]
            refine take_S 2 rfl (by kernel_rfl) (by kernel_rfl) hS0 (fun w' hS => by have B0 := (ARow.cells hS).1; have B1 := (ARow.cells hS).2.1; have B2 := (ARow.cells hS).2.2; go_simp; rfl) ?_
            try simp only [Act.put, List.getElem_toArray, List.getElem_cons_succ, List.getElem_cons_zero, List.setIfInBounds_toArray, List.set_cons_zero, List.set_cons_succ]
            refine take_S 4 rfl (by kernel_rfl) (by kernel_rfl) hS0 (fun w' hS => by have B0 := (ARow.cells hS).1; have B1 := (ARow.cells hS).2.1; have B2 := (ARow.cells hS).2.2; go_simp; rfl) ?_
            try simp only [Act.put, List.getElem_toArray, List.getElem_cons_succ, List.getElem_cons_zero, List.setIfInBounds_toArray, List.set_cons_zero, List.set_cons_succ]
            refine take_S 5 rfl (by kernel_rfl) (by kernel_rfl) hS0 (fun w' hS => by have B0 := (ARow.cells hS).1; have B1 := (ARow.cells hS).2.1; have B2 := (ARow.cells hS).2.2; go_simp; rfl) ?_
            try simp only [Act.put, List.getElem_toArray, List.getElem_cons_succ, List.getElem_cons_zero, List.setIfInBounds_toArray, List.set_cons_zero, List.set_cons_succ]
            refine take_S 6 rfl (by kernel_rfl) (by kernel_rfl) hS0 (fun w' hS => by have B0 := (ARow.cells hS).1; have B1 := (ARow.cells hS).2.1; have B2 := (ARow.cells hS).2.2; go_simp; rfl) ?_
            try simp only [Act.put, List.getElem_toArray, List.getElem_cons_succ, List.getElem_cons_zero, List.setIfInBounds_toArray, List.set_cons_zero, List.set_cons_succ]
            refine carry_S 3 rfl (by kernel_rfl) (by decide) (by kernel_rfl) (fun K hK => ?_)
            go_simp
            have hd0 : DiskIs d gx s.b s.off s.cut wa.drew := DiskIs.below HAa.out.din.is (Below.refl _ _).drew
            have he0 := HG.out.e.below (HAa.out.below (Below.refl _ _).drew).din.b
            refine (TCut_any a d gx s.b s.off s.cut n wa.drew hd0 (he0.someS _ (by decide))).mono ?_
            intro e w3 hp0
            obtain ⟨r, rfl, _⟩ := id hp0
            obtain ⟨hER, hp⟩ := cut_post hd0 hp0
            obtain ⟨g5, hin3, hm3, hmg3, ht3⟩ := (HAa.out.below (Below.refl _ _).drew).disk hp
            have hS3 : ARow ba KD X n w3 := hS0.two ht3 hba.1 hba.2.1
            refine hK _ _ hS3 ?_
            clear hK K
            try simp only [Act.put, List.getElem_toArray, List.getElem_cons_succ, List.getElem_cons_zero, List.setIfInBounds_toArray, List.set_cons_zero, List.set_cons_succ]
            refine carry_S 7 rfl (by kernel_rfl) (by decide) (by kernel_rfl) (fun K hK => ?_)
            go_simp
            refine (RTSetCut_any m s n w3 hm3).mono ?_
            rintro e w4 ⟨rfl, hp4⟩
            have hin4 := ActIn.both hin3 HAa.out.md hmg3 HAa.out.mW hp4
            have hS4 : ARow ba KD X n w4 := hS3.two hp4.2 hba.2.2 hba.2.2
            refine hK _ _ hS4 ?_
            clear hK K
            try simp only [Act.put, List.getElem_toArray, List.getElem_cons_succ, List.getElem_cons_zero, List.setIfInBounds_toArray, List.set_cons_zero, List.set_cons_succ]
            refine carry_S 8 rfl (by kernel_rfl) (by decide) (by kernel_rfl) (fun K hK => ?_)
            go_simp
            refine (coded3_any a r _ _ _ w4 (HG.out.e.below hin4.din.b) (hER w4 (HG.out.e.below hin4.din.b))).mono ?_
            rintro e w5 ⟨rfl, hb5⟩
            rw [codedB_same]
            have hS5 := hS4.below hb5
            refine hK _ _ hS5 ?_
            clear hK K
            try simp only [Act.put, List.getElem_toArray, List.getElem_cons_succ, List.getElem_cons_zero, List.setIfInBounds_toArray, List.set_cons_zero, List.set_cons_succ]
            refine forced_S (by kernel_rfl) ?_
            simp only [List.drop_succ_cons, List.drop_zero]
            have HA5 := Lib.hid (hin4.below hb5)
            have HN5 := Lib.hid (hst.out.cut n hn63)
            generalize cutSt s n = s5 at *
            clear hS0 hS3 hS4 hS5 hp hp0 hin3 hm3 hmg3 ht3 hp4 hin4 hER hb5 HAa HARa hst hd0 he0
            go_wp2
            have hS0 : Below w5.heap.size w5 w5.drew := (Below.refl _ _).drew
            have hpo : ((!s5.off) == s5.off) = false := by cases s5.off <;> rfl
            refine region_S (fun w' => Below w5.heap.size w5 w') 15 (by kernel_rfl) (by kernel_rfl) ?_
            refine take_S 0 rfl (by kernel_rfl) (by kernel_rfl) hS0 (fun w' hS => by go_simp; rfl) ?_
            try simp only [Act.put, List.getElem_toArray, List.getElem_cons_succ, List.getElem_cons_zero, List.setIfInBounds_toArray, List.set_cons_zero, List.set_cons_succ]
            refine take_S 2 rfl (by kernel_rfl) (by kernel_rfl) hS0 (fun w' hS => by go_simp; rfl) ?_
            try simp only [Act.put, List.getElem_toArray, List.getElem_cons_succ, List.getElem_cons_zero, List.setIfInBounds_toArray, List.set_cons_zero, List.set_cons_succ]
            refine take_S 3 rfl (by kernel_rfl) (by kernel_rfl) hS0 (fun w' hS => by go_simp; rfl) ?_
            try simp only [Act.put, List.getElem_toArray, List.getElem_cons_succ, List.getElem_cons_zero, List.setIfInBounds_toArray, List.set_cons_zero, List.set_cons_succ]
            refine take_S 4 rfl (by kernel_rfl) (by kernel_rfl) hS0 (fun w' hS => by go_simp; rfl) ?_
            try simp only [Act.put, List.getElem_toArray, List.getElem_cons_succ, List.getElem_cons_zero, List.setIfInBounds_toArray, List.set_cons_zero, List.set_cons_succ]
            refine take_S 5 rfl (by kernel_rfl) (by kernel_rfl) hS0 (fun w' hS => by have c0 := (HA5.out.tp.below hS).cells.1; have c1 := (HA5.out.tp.below hS).cells.2.1; go_simp; rfl) ?_
            try simp only [Act.put, List.getElem_toArray, List.getElem_cons_succ, List.getElem_cons_zero, List.setIfInBounds_toArray, List.set_cons_zero, List.set_cons_succ]
            refine carry_S 1 rfl (by kernel_rfl) (by decide) (by kernel_rfl) (fun K hK => ?_)
            go_simp
            refine (TBytes_any d g5 s5.b s5.off s5.cut w5.drew (DiskIs.below HA5.out.din.is hS0)).mono ?_
            rintro e x ⟨rfl, rfl⟩
            refine hK _ _ hS0 ?_
            clear hK K
            try simp only [Act.put, List.getElem_toArray, List.getElem_cons_succ, List.getElem_cons_zero, List.setIfInBounds_toArray, List.set_cons_zero, List.set_cons_succ]
            refine take_S (v := .bool false) 6 rfl (by kernel_rfl) (by kernel_rfl) hS0 (fun w' hS => by go_simp) ?_
            try simp only [Act.put, List.getElem_toArray, List.getElem_cons_succ, List.getElem_cons_zero, List.setIfInBounds_toArray, List.set_cons_zero, List.set_cons_succ]
            refine take_S 7 rfl (by kernel_rfl) (by kernel_rfl) hS0 (fun w' hS => by go_simp; rfl) ?_
            try simp only [Act.put, List.getElem_toArray, List.getElem_cons_succ, List.getElem_cons_zero, List.setIfInBounds_toArray, List.set_cons_zero, List.set_cons_succ]
            refine take_S 8 rfl (by kernel_rfl) (by kernel_rfl) hS0 (fun w' hS => by go_simp; rfl) ?_
            try simp only [Act.put, List.getElem_toArray, List.getElem_cons_succ, List.getElem_cons_zero, List.setIfInBounds_toArray, List.set_cons_zero, List.set_cons_succ]
            refine take_S 10 rfl (by kernel_rfl) (by kernel_rfl) hS0 (fun w' hS => by go_simp; rfl) ?_
            try simp only [Act.put, List.getElem_toArray, List.getElem_cons_succ, List.getElem_cons_zero, List.setIfInBounds_toArray, List.set_cons_zero, List.set_cons_succ]
            refine take_S 11 rfl (by kernel_rfl) (by kernel_rfl) hS0 (fun w' hS => by go_simp; rfl) ?_
            try simp only [Act.put, List.getElem_toArray, List.getElem_cons_succ, List.getElem_cons_zero, List.setIfInBounds_toArray, List.set_cons_zero, List.set_cons_succ]
            refine take_S 12 rfl (by kernel_rfl) (by kernel_rfl) hS0 (fun w' hS => by go_simp; rfl) ?_
            try simp only [Act.put, List.getElem_toArray, List.getElem_cons_succ, List.getElem_cons_zero, List.setIfInBounds_toArray, List.set_cons_zero, List.set_cons_succ]
            refine take_S 13 rfl (by kernel_rfl) (by kernel_rfl) hS0 (fun w' hS => by have c0 := (HA5.out.tp.below hS).cells.1; have c1 := (HA5.out.tp.below hS).cells.2.1; go_simp; rfl) ?_
            try simp only [Act.put, List.getElem_toArray, List.getElem_cons_succ, List.getElem_cons_zero, List.setIfInBounds_toArray, List.set_cons_zero, List.set_cons_succ]
            refine carry_S 9 rfl (by kernel_rfl) (by decide) (by kernel_rfl) (fun K hK => ?_)
            go_simp
            refine (TPower_any d g5 s5.b s5.off s5.cut w5.drew (DiskIs.below HA5.out.din.is hS0)).mono ?_
            rintro e x ⟨rfl, rfl⟩
            refine hK _ _ hS0 ?_
            clear hK K
            try simp only [Act.put, List.getElem_toArray, List.getElem_cons_succ, List.getElem_cons_zero, List.setIfInBounds_toArray, List.set_cons_zero, List.set_cons_succ]
            refine take_S (v := .bool false) 14 rfl (by kernel_rfl) (by kernel_rfl) hS0 (fun w' hS => by go_simp) ?_
            try simp only [Act.put, List.getElem_toArray, List.getElem_cons_succ, List.getElem_cons_zero, List.setIfInBounds_toArray, List.set_cons_zero, List.set_cons_succ]
            refine forced_S (by kernel_rfl) ?_
            simp only [List.drop_succ_cons, List.drop_zero]
            have HA6 := Lib.hid (HA5.out.below hS0)
            clear hS0 HA5
            go_wp2
            go_roundg (l.length - (k + 1))
            case measure => omega
            case rel => exact ⟨k + 1, g5, s5, by go_num, hkl, rfl, HA6, HN5⟩
          · have k2i : ((bs KD).toList == [99, 117, 116]) = false := by rw [bs_list]; exact beq_eq_false_iff_ne.2 k2
            by_cases k3 : KD = [111, 110]
            · have k3i : ((bs KD).toList == [111, 110]) = true := by rw [k3, bs_list]; rfl
              clear k1 k2 k3
              go_wp2_with fail
              have hAa := hin.out.below ((Below.refl _ _).alloc (Nat.le_refl _) (.cells #[.string (bs KD), .string (bs X), .int .i64 n] 62))
              have hARa : ARow wr.heap.size KD X n (wr.alloc (.cells #[.string (bs KD), .string (bs X), .int .i64 n] 62)) := heap_alloc_new wr _
              have hba : wr.heap.size ≠ d ∧ wr.heap.size ≠ gx ∧ wr.heap.size ≠ m := by
                obtain ⟨v0, h0⟩ := hin.out.din.is
                have h1 := h0.lt
                have h2 := h0.buf.lt
                have h3 := hin.out.tp.lt
                omega
              generalize wr.alloc (.cells #[.string (bs KD), .string (bs X), .int .i64 n] 62) = wa at *
              generalize wr.heap.size = ba at *
              have HAa := Lib.hid hAa
              have HARa := Lib.hid hARa
              clear hAa hARa hin
              refine (TOn_any d gx s.b s.off s.cut wa HAa.out.din.is).mono ?_
              rintro e w3 ⟨rfl, hd3, ht3⟩
              obtain ⟨g5, hin3, hm3, hmg3, _⟩ := HAa.out.disk (s' := ⟨s.b, false, -1⟩) ⟨gx, hd3, .inl rfl, ht3⟩
              obtain ⟨c0, c1, c2, f0, f1, f2⟩ := hm3.cells
              have HA5 : Hid (ActIn a W d g5 m ⟨s.b, false, -1⟩ ((w3.setCell ⟨m, 1, none⟩ (.bool false)).setCell ⟨m, 2, none⟩ (.int .i64 (-1)))) := Lib.hid (ActIn.both hin3 HAa.out.md hmg3 HAa.out.mW ⟨(hm3.set1 false).set2 (-1), ((Two.refl m m w3).setCell 1 _).setCell 2 _⟩)
              have HN5 := Lib.hid hst.out.on
              clear hin3 hm3 hmg3 ht3 hd3 HAa HARa hst
              go_wp2
              generalize (w3.setCell ⟨m, 1, none⟩ (.bool false)).setCell ⟨m, 2, none⟩ (.int .i64 (-1)) = w5 at *
              generalize (⟨s.b, false, -1⟩ : DSt) = s5 at *
              have hS0 : Below w5.heap.size w5 w5.drew := (Below.refl _ _).drew
              have hpo : ((!s5.off) == s5.off) = false := by cases s5.off <;> rfl
              refine region_S (fun w' => Below w5.heap.size w5 w') 15 (by kernel_rfl) (by kernel_rfl) ?_
              refine take_S 0 rfl (by kernel_rfl) (by kernel_rfl) hS0 (fun w' hS => by go_simp; rfl) ?_
              try simp only [Act.put, List.getElem_toArray, List.getElem_cons_succ, List.getElem_cons_zero, List.setIfInBounds_toArray, List.set_cons_zero, List.set_cons_succ]
              refine take_S 2 rfl (by kernel_rfl) (by kernel_rfl) hS0 (fun w' hS => by go_simp; rfl) ?_
              try simp only [Act.put, List.getElem_toArray, List.getElem_cons_succ, List.getElem_cons_zero, List.setIfInBounds_toArray, List.set_cons_zero, List.set_cons_succ]
              refine take_S 3 rfl (by kernel_rfl) (by kernel_rfl) hS0 (fun w' hS => by go_simp; rfl) ?_
              try simp only [Act.put, List.getElem_toArray, List.getElem_cons_succ, List.getElem_cons_zero, List.setIfInBounds_toArray, List.set_cons_zero, List.set_cons_succ]
              refine take_S 4 rfl (by kernel_rfl) (by kernel_rfl) hS0 (fun w' hS => by go_simp; rfl) ?_
              try simp only [Act.put, List.getElem_toArray, List.getElem_cons_succ, List.getElem_cons_zero, List.setIfInBounds_toArray, List.set_cons_zero, List.set_cons_succ]
              refine take_S 5 rfl (by kernel_rfl) (by kernel_rfl) hS0 (fun w' hS => by have c0 := (HA5.out.tp.below hS).cells.1; have c1 := (HA5.out.tp.below hS).cells.2.1; go_simp; rfl) ?_
              try simp only [Act.put, List.getElem_toArray, List.getElem_cons_succ, List.getElem_cons_zero, List.setIfInBounds_toArray, List.set_cons_zero, List.set_cons_succ]
              refine carry_S 1 rfl (by kernel_rfl) (by decide) (by kernel_rfl) (fun K hK => ?_)
              go_simp
              refine (TBytes_any d g5 s5.b s5.off s5.cut w5.drew (DiskIs.below HA5.out.din.is hS0)).mono ?_
              rintro e x ⟨rfl, rfl⟩
              refine hK _ _ hS0 ?_
              clear hK K
              try simp only [Act.put, List.getElem_toArray, List.getElem_cons_succ, List.getElem_cons_zero, List.setIfInBounds_toArray, List.set_cons_zero, List.set_cons_succ]
              refine take_S (v := .bool false) 6 rfl (by kernel_rfl) (by kernel_rfl) hS0 (fun w' hS => by go_simp) ?_
              try simp only [Act.put, List.getElem_toArray, List.getElem_cons_succ, List.getElem_cons_zero, List.setIfInBounds_toArray, List.set_cons_zero, List.set_cons_succ]
              refine take_S 7 rfl (by kernel_rfl) (by kernel_rfl) hS0 (fun w' hS => by go_simp; rfl) ?_
              try simp only [Act.put, List.getElem_toArray, List.getElem_cons_succ, List.getElem_cons_zero, List.setIfInBounds_toArray, List.set_cons_zero, List.set_cons_succ]
              refine take_S 8 rfl (by kernel_rfl) (by kernel_rfl) hS0 (fun w' hS => by go_simp; rfl) ?_
              try simp only [Act.put, List.getElem_toArray, List.getElem_cons_succ, List.getElem_cons_zero, List.setIfInBounds_toArray, List.set_cons_zero, List.set_cons_succ]
              refine take_S 10 rfl (by kernel_rfl) (by kernel_rfl) hS0 (fun w' hS => by go_simp; rfl) ?_
              try simp only [Act.put, List.getElem_toArray, List.getElem_cons_succ, List.getElem_cons_zero, List.setIfInBounds_toArray, List.set_cons_zero, List.set_cons_succ]
              refine take_S 11 rfl (by kernel_rfl) (by kernel_rfl) hS0 (fun w' hS => by go_simp; rfl) ?_
              try simp only [Act.put, List.getElem_toArray, List.getElem_cons_succ, List.getElem_cons_zero, List.setIfInBounds_toArray, List.set_cons_zero, List.set_cons_succ]
              refine take_S 12 rfl (by kernel_rfl) (by kernel_rfl) hS0 (fun w' hS => by go_simp; rfl) ?_
              try simp only [Act.put, List.getElem_toArray, List.getElem_cons_succ, List.getElem_cons_zero, List.setIfInBounds_toArray, List.set_cons_zero, List.set_cons_succ]
              refine take_S 13 rfl (by kernel_rfl) (by kernel_rfl) hS0 (fun w' hS => by have c0 := (HA5.out.tp.below hS).cells.1; have c1 := (HA5.out.tp.below hS).cells.2.1; go_simp; rfl) ?_
              try simp only [Act.put, List.getElem_toArray, List.getElem_cons_succ, List.getElem_cons_zero, List.setIfInBounds_toArray, List.set_cons_zero, List.set_cons_succ]
              refine carry_S 9 rfl (by kernel_rfl) (by decide) (by kernel_rfl) (fun K hK => ?_)
              go_simp
              refine (TPower_any d g5 s5.b s5.off s5.cut w5.drew (DiskIs.below HA5.out.din.is hS0)).mono ?_
              rintro e x ⟨rfl, rfl⟩
              refine hK _ _ hS0 ?_
              clear hK K
              try simp only [Act.put, List.getElem_toArray, List.getElem_cons_succ, List.getElem_cons_zero, List.setIfInBounds_toArray, List.set_cons_zero, List.set_cons_succ]
              refine take_S (v := .bool false) 14 rfl (by kernel_rfl) (by kernel_rfl) hS0 (fun w' hS => by go_simp) ?_
              try simp only [Act.put, List.getElem_toArray, List.getElem_cons_succ, List.getElem_cons_zero, List.setIfInBounds_toArray, List.set_cons_zero, List.set_cons_succ]
              refine forced_S (by kernel_rfl) ?_
              simp only [List.drop_succ_cons, List.drop_zero]
              have HA6 := Lib.hid (HA5.out.below hS0)
              clear hS0 HA5
              go_wp2
              go_roundg (l.length - (k + 1))
              case measure => omega
              case rel => exact ⟨k + 1, g5, s5, by go_num, hkl, rfl, HA6, HN5⟩
            · have k3i : ((bs KD).toList == [111, 110]) = false := by rw [bs_list]; exact beq_eq_false_iff_ne.2 k3
              clear k1 k2 k3
              go_wp2_with fail
              have hAa := hin.out.below ((Below.refl _ _).alloc (Nat.le_refl _) (.cells #[.string (bs KD), .string (bs X), .int .i64 n] 62))
              have hARa : ARow wr.heap.size KD X n (wr.alloc (.cells #[.string (bs KD), .string (bs X), .int .i64 n] 62)) := heap_alloc_new wr _
              have hba : wr.heap.size ≠ d ∧ wr.heap.size ≠ gx ∧ wr.heap.size ≠ m := by
                obtain ⟨v0, h0⟩ := hin.out.din.is
                have h1 := h0.lt
                have h2 := h0.buf.lt
                have h3 := hin.out.tp.lt
                omega
              generalize wr.alloc (.cells #[.string (bs KD), .string (bs X), .int .i64 n] 62) = wa at *
              generalize wr.heap.size = ba at *
              have HAa := Lib.hid hAa
              have HARa := Lib.hid hARa
              clear hAa hARa hin
              refine (TRecover_any a W d gx s wa HAa.out.din HBL.out).mono ?_
              rintro e w3 ⟨vx, rfl, hrow3, _, hp3⟩
              obtain ⟨g5, hin3, hm3, hmg3, ht3⟩ := HAa.out.disk hp3
              have HI3 := Lib.hid hin3
              have HM3 := Lib.hid hm3
              have HR3 := Lib.hid hrow3
              have HMG := Lib.hid hmg3
              have HST := Lib.hid hst.out
              have HBZ := Lib.hid (show m < wa.heap.size from HAa.out.tp.lt)
              have HSZ := Lib.hid ht3.size
              clear hin3 hm3 hrow3 hmg3 ht3 hp3 hst
              go_wp2_with fail
              refine (RTRecover_any m s HBL.out w3 HM3.out).mono ?_
              rintro e w4 ⟨vy, rfl, hrow4, hp4⟩
              have HA4 := Lib.hid (ActIn.both HI3.out HAa.out.md HMG.out HAa.out.mW hp4)
              have hrd1 : Rd w4 w4.heap.size vx ((readAll s.b).map VT) := Rd.own (own_one HR3.out HBZ.out hp4.2)
              have hrd2 : Rd w4 w4.heap.size vy ((readAll s.b).map VT) := Rd.own hrow4
              have hlr : (readAll s.b).length ≤ 2 ^ 62 := by have h1 := recs_count (readAll s.b); have h2 := (readAll_take s.b).2; have h3 := HBL.out; omega
              have HD1 := Lib.hid hrd1
              have HD2 := Lib.hid hrd2
              have HLR := Lib.hid hlr
              clear hrow4 hp4 hrd1 hrd2 hlr HAa HARa HR3 HM3 HI3 HMG
              go_wp2_with fail
              refine (SameTexts_any vx vy _ _ w4.heap.size w4 HD1.out HD2.out HLR.out HLR.out).mono ?_
              rintro e w6 ⟨rfl, q, rfl⟩
              have hdt : decide (readAll s.b = readAll s.b) = true := by simp
              rw [hdt]
              have HA5 := Lib.hid (HA4.out.below (below_drewN (Below.refl _ _) q))
              have HN5 := Lib.hid HST.out.recover
              clear hdt HA4 HD1 HD2
              generalize w4.drewN q = w5 at *
              generalize rcSt s = s5 at *
              go_wp2
              have hS0 : Below w5.heap.size w5 w5.drew := (Below.refl _ _).drew
              have hpo : ((!s5.off) == s5.off) = false := by cases s5.off <;> rfl
              refine region_S (fun w' => Below w5.heap.size w5 w') 15 (by kernel_rfl) (by kernel_rfl) ?_
              refine take_S 0 rfl (by kernel_rfl) (by kernel_rfl) hS0 (fun w' hS => by go_simp; rfl) ?_
              try simp only [Act.put, List.getElem_toArray, List.getElem_cons_succ, List.getElem_cons_zero, List.setIfInBounds_toArray, List.set_cons_zero, List.set_cons_succ]
              refine take_S 2 rfl (by kernel_rfl) (by kernel_rfl) hS0 (fun w' hS => by go_simp; rfl) ?_
              try simp only [Act.put, List.getElem_toArray, List.getElem_cons_succ, List.getElem_cons_zero, List.setIfInBounds_toArray, List.set_cons_zero, List.set_cons_succ]
              refine take_S 3 rfl (by kernel_rfl) (by kernel_rfl) hS0 (fun w' hS => by go_simp; rfl) ?_
              try simp only [Act.put, List.getElem_toArray, List.getElem_cons_succ, List.getElem_cons_zero, List.setIfInBounds_toArray, List.set_cons_zero, List.set_cons_succ]
              refine take_S 4 rfl (by kernel_rfl) (by kernel_rfl) hS0 (fun w' hS => by go_simp; rfl) ?_
              try simp only [Act.put, List.getElem_toArray, List.getElem_cons_succ, List.getElem_cons_zero, List.setIfInBounds_toArray, List.set_cons_zero, List.set_cons_succ]
              refine take_S 5 rfl (by kernel_rfl) (by kernel_rfl) hS0 (fun w' hS => by have c0 := (HA5.out.tp.below hS).cells.1; have c1 := (HA5.out.tp.below hS).cells.2.1; go_simp; rfl) ?_
              try simp only [Act.put, List.getElem_toArray, List.getElem_cons_succ, List.getElem_cons_zero, List.setIfInBounds_toArray, List.set_cons_zero, List.set_cons_succ]
              refine carry_S 1 rfl (by kernel_rfl) (by decide) (by kernel_rfl) (fun K hK => ?_)
              go_simp
              refine (TBytes_any d g5 s5.b s5.off s5.cut w5.drew (DiskIs.below HA5.out.din.is hS0)).mono ?_
              rintro e x ⟨rfl, rfl⟩
              refine hK _ _ hS0 ?_
              clear hK K
              try simp only [Act.put, List.getElem_toArray, List.getElem_cons_succ, List.getElem_cons_zero, List.setIfInBounds_toArray, List.set_cons_zero, List.set_cons_succ]
              refine take_S (v := .bool false) 6 rfl (by kernel_rfl) (by kernel_rfl) hS0 (fun w' hS => by go_simp) ?_
              try simp only [Act.put, List.getElem_toArray, List.getElem_cons_succ, List.getElem_cons_zero, List.setIfInBounds_toArray, List.set_cons_zero, List.set_cons_succ]
              refine take_S 7 rfl (by kernel_rfl) (by kernel_rfl) hS0 (fun w' hS => by go_simp; rfl) ?_
              try simp only [Act.put, List.getElem_toArray, List.getElem_cons_succ, List.getElem_cons_zero, List.setIfInBounds_toArray, List.set_cons_zero, List.set_cons_succ]
              refine take_S 8 rfl (by kernel_rfl) (by kernel_rfl) hS0 (fun w' hS => by go_simp; rfl) ?_
              try simp only [Act.put, List.getElem_toArray, List.getElem_cons_succ, List.getElem_cons_zero, List.setIfInBounds_toArray, List.set_cons_zero, List.set_cons_succ]
              refine take_S 10 rfl (by kernel_rfl) (by kernel_rfl) hS0 (fun w' hS => by go_simp; rfl) ?_
              try simp only [Act.put, List.getElem_toArray, List.getElem_cons_succ, List.getElem_cons_zero, List.setIfInBounds_toArray, List.set_cons_zero, List.set_cons_succ]
              refine take_S 11 rfl (by kernel_rfl) (by kernel_rfl) hS0 (fun w' hS => by go_simp; rfl) ?_
              try simp only [Act.put, List.getElem_toArray, List.getElem_cons_succ, List.getElem_cons_zero, List.setIfInBounds_toArray, List.set_cons_zero, List.set_cons_succ]
              refine take_S 12 rfl (by kernel_rfl) (by kernel_rfl) hS0 (fun w' hS => by go_simp; rfl) ?_
              try simp only [Act.put, List.getElem_toArray, List.getElem_cons_succ, List.getElem_cons_zero, List.setIfInBounds_toArray, List.set_cons_zero, List.set_cons_succ]
              refine take_S 13 rfl (by kernel_rfl) (by kernel_rfl) hS0 (fun w' hS => by have c0 := (HA5.out.tp.below hS).cells.1; have c1 := (HA5.out.tp.below hS).cells.2.1; go_simp; rfl) ?_
              try simp only [Act.put, List.getElem_toArray, List.getElem_cons_succ, List.getElem_cons_zero, List.setIfInBounds_toArray, List.set_cons_zero, List.set_cons_succ]
              refine carry_S 9 rfl (by kernel_rfl) (by decide) (by kernel_rfl) (fun K hK => ?_)
              go_simp
              refine (TPower_any d g5 s5.b s5.off s5.cut w5.drew (DiskIs.below HA5.out.din.is hS0)).mono ?_
              rintro e x ⟨rfl, rfl⟩
              refine hK _ _ hS0 ?_
              clear hK K
              try simp only [Act.put, List.getElem_toArray, List.getElem_cons_succ, List.getElem_cons_zero, List.setIfInBounds_toArray, List.set_cons_zero, List.set_cons_succ]
              refine take_S (v := .bool false) 14 rfl (by kernel_rfl) (by kernel_rfl) hS0 (fun w' hS => by go_simp) ?_
              try simp only [Act.put, List.getElem_toArray, List.getElem_cons_succ, List.getElem_cons_zero, List.setIfInBounds_toArray, List.set_cons_zero, List.set_cons_succ]
              refine forced_S (by kernel_rfl) ?_
              simp only [List.drop_succ_cons, List.drop_zero]
              have HA6 := Lib.hid (HA5.out.below hS0)
              clear hS0 HA5
              go_wp2
              go_roundg (l.length - (k + 1))
              case measure => omega
              case rel => exact ⟨k + 1, g5, s5, by go_num, hkl, rfl, HA6, HN5⟩
      · have hXi : (200 : Int) < ((bs X).size : Int) := by rw [bs_size]; omega
        by_cases hX2 : X.length = 40001
        · have hX2i : (((bs X).size : Int) != 40001) = false := by rw [bs_size, hX2]; rfl
          have hX01 : X.length ≤ 200 ∨ X.length = 40001 := .inr hX2
          have HX30 : Hid ((bs X).size ≤ 2 ^ 30) := Lib.hid (by rw [bs_size, hX2]; decide)
          clear hX hX2
          by_cases k1 : KD = [97, 112, 112, 101, 110, 100]
          · have k1i : ((bs KD).toList == [97, 112, 112, 101, 110, 100]) = true := by rw [k1, bs_list]; rfl
            clear k1
            obtain ⟨cd, hcd⟩ : ∃ cd, cd = apCode s X := ⟨_, rfl⟩
            obtain ⟨s5, hs5⟩ : ∃ s5, s5 = apSt s X := ⟨_, rfl⟩
            have HCD : Hid (∀ w', Sents a w' → ErrV a (errOf a (apNo s X)) cd (-1) w') := Lib.hid (fun w' h => by rw [hcd]; exact errV_ap h s X)
            have HN5 : Hid (ActSt (k + 1) s5) := Lib.hid (by rw [hs5]; exact hst.out.append X hX01)
            have TAP : Hid (∀ w', DIn a W d gx s w' → Calls Tryd.prog 19 #[.pointer (some ⟨d, 0, none⟩), .string (bs X)] w' fun e w'' => ∃ r, e = .returned r ∧ r = errOf a (apNo s X) ∧ DPost d gx s5 w' w'') := Lib.hid (fun w' h => by
              have := TAppend_any a W d gx s (bs X) w' h HX30.out HBL.out hst.out.c1 (by have := hst.out.c0; omega)
              rw [bs_toList] at this
              rw [hs5]; exact this)
            have RTA : Hid (∀ w', MAt m s w' → Calls Tryd.prog 31 #[.pointer (some ⟨m, 0, none⟩), .string (bs X)] w' fun e w'' => e = .returned (.int .i64 cd) ∧ MPost m s5 w' w'') := Lib.hid (fun w' h => by
              have := RTAppend_any m s (bs X) HX30.out HBL.out hst.out.c1 (by have := hst.out.c0; omega) w' h
              rw [bs_toList] at this
              rw [hs5, hcd]; exact this)
            generalize apNo s X = no at *
            clear hcd hs5
            go_wp2
            have hAa := hin.out.below ((Below.refl _ _).alloc (Nat.le_refl _) (.cells #[.string (bs KD), .string (bs X), .int .i64 n] 62))
            have hARa : ARow wr.heap.size KD X n (wr.alloc (.cells #[.string (bs KD), .string (bs X), .int .i64 n] 62)) := heap_alloc_new wr _
            have hba : wr.heap.size ≠ d ∧ wr.heap.size ≠ gx ∧ wr.heap.size ≠ m := by
              obtain ⟨v0, h0⟩ := hin.out.din.is
              have h1 := h0.lt
              have h2 := h0.buf.lt
              have h3 := hin.out.tp.lt
              omega
            generalize wr.alloc (.cells #[.string (bs KD), .string (bs X), .int .i64 n] 62) = wa at *
            generalize wr.heap.size = ba at *
            have HAa := Lib.hid hAa
            have HARa := Lib.hid hARa
            clear hAa hARa hin
            have hS0 : ARow ba KD X n wa.drew := HARa.out
            refine region_S (fun w' => ARow ba KD X n w') 9 (by kernel_rfl) (by kernel_rfl) ?_
            refine take_S 0 rfl (by kernel_rfl) (by kernel_rfl) hS0 (fun w' hS => by have B0 := (ARow.cells hS).1; have B1 := (ARow.cells hS).2.1; have B2 := (ARow.cells hS).2.2; go_simp; rfl) ?_
            try simp only [Act.put, List.getElem_toArray, List.getElem_cons_succ, List.getElem_cons_zero, List.setIfInBounds_toArray, List.set_cons_zero, List.set_cons_succ]
            refine take_S 1 rfl (by kernel_rfl) (by kernel_rfl) hS0 (fun w' hS => by have B0 := (ARow.cells hS).1; have B1 := (ARow.cells hS).2.1; have B2 := (ARow.cells hS).2.2; go_simp; rfl) ?_
            try simp only [Act.put, List.getElem_toArray, List.getElem_cons_succ, List.getElem_cons_zero, List.setIfInBounds_toArray, List.set_cons_zero, List.set_cons_succ]
            refine take_S 2 rfl (by kernel_rfl) (by kernel_rfl) hS0 (fun w' hS => by have B0 := (ARow.cells hS).1; have B1 := (ARow.cells hS).2.1; have B2 := (ARow.cells hS).2.2; go_simp; rfl) ?_
            try simp only [Act.put, List.getElem_toArray, List.getElem_cons_succ, List.getElem_cons_zero, List.setIfInBounds_toArray, List.set_cons_zero, List.set_cons_succ]
            refine take_S 4 rfl (by kernel_rfl) (by kernel_rfl) hS0 (fun w' hS => by have B0 := (ARow.cells hS).1; have B1 := (ARow.cells hS).2.1; have B2 := (ARow.cells hS).2.2; go_simp; rfl) ?_
            try simp only [Act.put, List.getElem_toArray, List.getElem_cons_succ, List.getElem_cons_zero, List.setIfInBounds_toArray, List.set_cons_zero, List.set_cons_succ]
            refine take_S 5 rfl (by kernel_rfl) (by kernel_rfl) hS0 (fun w' hS => by have B0 := (ARow.cells hS).1; have B1 := (ARow.cells hS).2.1; have B2 := (ARow.cells hS).2.2; go_simp; rfl) ?_
            try simp only [Act.put, List.getElem_toArray, List.getElem_cons_succ, List.getElem_cons_zero, List.setIfInBounds_toArray, List.set_cons_zero, List.set_cons_succ]
            refine take_S 6 rfl (by kernel_rfl) (by kernel_rfl) hS0 (fun w' hS => by have B0 := (ARow.cells hS).1; have B1 := (ARow.cells hS).2.1; have B2 := (ARow.cells hS).2.2; go_simp; rfl) ?_
            try simp only [Act.put, List.getElem_toArray, List.getElem_cons_succ, List.getElem_cons_zero, List.setIfInBounds_toArray, List.set_cons_zero, List.set_cons_succ]
            refine carry_S 3 rfl (by kernel_rfl) (by decide) (by kernel_rfl) (fun K hK => ?_)
            go_simp
            refine (TAP.out wa.drew (HAa.out.din.below (Below.refl _ _).drew)).mono ?_
            rintro e w3 ⟨r, rfl, hr, hp⟩
            have HR := Lib.hid hr
            clear hr
            obtain ⟨g5, hin3, hm3, hmg3, ht3⟩ := (HAa.out.below (Below.refl _ _).drew).disk hp
            have hS3 : ARow ba KD X n w3 := hS0.two ht3 hba.1 hba.2.1
            refine hK _ _ hS3 ?_
            clear hK K
            try simp only [Act.put, List.getElem_toArray, List.getElem_cons_succ, List.getElem_cons_zero, List.setIfInBounds_toArray, List.set_cons_zero, List.set_cons_succ]
            refine carry_S 7 rfl (by kernel_rfl) (by decide) (by kernel_rfl) (fun K hK => ?_)
            go_simp
            refine (RTA.out w3 hm3).mono ?_
            rintro e w4 ⟨rfl, hp4⟩
            have hin4 := ActIn.both hin3 HAa.out.md hmg3 HAa.out.mW hp4
            have hS4 : ARow ba KD X n w4 := hS3.two hp4.2 hba.2.2 hba.2.2
            refine hK _ _ hS4 ?_
            clear hK K
            try simp only [Act.put, List.getElem_toArray, List.getElem_cons_succ, List.getElem_cons_zero, List.setIfInBounds_toArray, List.set_cons_zero, List.set_cons_succ]
            refine carry_S 8 rfl (by kernel_rfl) (by decide) (by kernel_rfl) (fun K hK => ?_)
            go_simp
            have he4 : ErrV a r cd (-1) w4 := by rw [HR.out]; exact HCD.out w4 (HG.out.e.below hin4.din.b)
            refine (coded3_any a r cd cd (-1) w4 (HG.out.e.below hin4.din.b) he4).mono ?_
            rintro e w5 ⟨rfl, hb5⟩
            rw [codedB_same]
            have hS5 := hS4.below hb5
            refine hK _ _ hS5 ?_
            clear hK K
            try simp only [Act.put, List.getElem_toArray, List.getElem_cons_succ, List.getElem_cons_zero, List.setIfInBounds_toArray, List.set_cons_zero, List.set_cons_succ]
            refine forced_S (by kernel_rfl) ?_
            simp only [List.drop_succ_cons, List.drop_zero]
            have HA5 := Lib.hid (hin4.below hb5)
            clear hS0 hS3 hS4 hS5 HR hp hin3 hm3 hmg3 ht3 hp4 hin4 he4 hb5 HAa HARa hst HCD TAP RTA
            go_wp2
            have hS0 : Below w5.heap.size w5 w5.drew := (Below.refl _ _).drew
            have hpo : ((!s5.off) == s5.off) = false := by cases s5.off <;> rfl
            refine region_S (fun w' => Below w5.heap.size w5 w') 15 (by kernel_rfl) (by kernel_rfl) ?_
            refine take_S 0 rfl (by kernel_rfl) (by kernel_rfl) hS0 (fun w' hS => by go_simp; rfl) ?_
            try simp only [Act.put, List.getElem_toArray, List.getElem_cons_succ, List.getElem_cons_zero, List.setIfInBounds_toArray, List.set_cons_zero, List.set_cons_succ]
            refine take_S 2 rfl (by kernel_rfl) (by kernel_rfl) hS0 (fun w' hS => by go_simp; rfl) ?_
            try simp only [Act.put, List.getElem_toArray, List.getElem_cons_succ, List.getElem_cons_zero, List.setIfInBounds_toArray, List.set_cons_zero, List.set_cons_succ]
            refine take_S 3 rfl (by kernel_rfl) (by kernel_rfl) hS0 (fun w' hS => by go_simp; rfl) ?_
            try simp only [Act.put, List.getElem_toArray, List.getElem_cons_succ, List.getElem_cons_zero, List.setIfInBounds_toArray, List.set_cons_zero, List.set_cons_succ]
            refine take_S 4 rfl (by kernel_rfl) (by kernel_rfl) hS0 (fun w' hS => by go_simp; rfl) ?_
            try simp only [Act.put, List.getElem_toArray, List.getElem_cons_succ, List.getElem_cons_zero, List.setIfInBounds_toArray, List.set_cons_zero, List.set_cons_succ]
            refine take_S 5 rfl (by kernel_rfl) (by kernel_rfl) hS0 (fun w' hS => by have c0 := (HA5.out.tp.below hS).cells.1; have c1 := (HA5.out.tp.below hS).cells.2.1; go_simp; rfl) ?_
            try simp only [Act.put, List.getElem_toArray, List.getElem_cons_succ, List.getElem_cons_zero, List.setIfInBounds_toArray, List.set_cons_zero, List.set_cons_succ]
            refine carry_S 1 rfl (by kernel_rfl) (by decide) (by kernel_rfl) (fun K hK => ?_)
            go_simp
            refine (TBytes_any d g5 s5.b s5.off s5.cut w5.drew (DiskIs.below HA5.out.din.is hS0)).mono ?_
            rintro e x ⟨rfl, rfl⟩
            refine hK _ _ hS0 ?_
            clear hK K
            try simp only [Act.put, List.getElem_toArray, List.getElem_cons_succ, List.getElem_cons_zero, List.setIfInBounds_toArray, List.set_cons_zero, List.set_cons_succ]
            refine take_S (v := .bool false) 6 rfl (by kernel_rfl) (by kernel_rfl) hS0 (fun w' hS => by go_simp) ?_
            try simp only [Act.put, List.getElem_toArray, List.getElem_cons_succ, List.getElem_cons_zero, List.setIfInBounds_toArray, List.set_cons_zero, List.set_cons_succ]
            refine take_S 7 rfl (by kernel_rfl) (by kernel_rfl) hS0 (fun w' hS => by go_simp; rfl) ?_
            try simp only [Act.put, List.getElem_toArray, List.getElem_cons_succ, List.getElem_cons_zero, List.setIfInBounds_toArray, List.set_cons_zero, List.set_cons_succ]
            refine take_S 8 rfl (by kernel_rfl) (by kernel_rfl) hS0 (fun w' hS => by go_simp; rfl) ?_
            try simp only [Act.put, List.getElem_toArray, List.getElem_cons_succ, List.getElem_cons_zero, List.setIfInBounds_toArray, List.set_cons_zero, List.set_cons_succ]
            refine take_S 10 rfl (by kernel_rfl) (by kernel_rfl) hS0 (fun w' hS => by go_simp; rfl) ?_
            try simp only [Act.put, List.getElem_toArray, List.getElem_cons_succ, List.getElem_cons_zero, List.setIfInBounds_toArray, List.set_cons_zero, List.set_cons_succ]
            refine take_S 11 rfl (by kernel_rfl) (by kernel_rfl) hS0 (fun w' hS => by go_simp; rfl) ?_
            try simp only [Act.put, List.getElem_toArray, List.getElem_cons_succ, List.getElem_cons_zero, List.setIfInBounds_toArray, List.set_cons_zero, List.set_cons_succ]
            refine take_S 12 rfl (by kernel_rfl) (by kernel_rfl) hS0 (fun w' hS => by go_simp; rfl) ?_
            try simp only [Act.put, List.getElem_toArray, List.getElem_cons_succ, List.getElem_cons_zero, List.setIfInBounds_toArray, List.set_cons_zero, List.set_cons_succ]
            refine take_S 13 rfl (by kernel_rfl) (by kernel_rfl) hS0 (fun w' hS => by have c0 := (HA5.out.tp.below hS).cells.1; have c1 := (HA5.out.tp.below hS).cells.2.1; go_simp; rfl) ?_
            try simp only [Act.put, List.getElem_toArray, List.getElem_cons_succ, List.getElem_cons_zero, List.setIfInBounds_toArray, List.set_cons_zero, List.set_cons_succ]
            refine carry_S 9 rfl (by kernel_rfl) (by decide) (by kernel_rfl) (fun K hK => ?_)
            go_simp
            refine (TPower_any d g5 s5.b s5.off s5.cut w5.drew (DiskIs.below HA5.out.din.is hS0)).mono ?_
            rintro e x ⟨rfl, rfl⟩
            refine hK _ _ hS0 ?_
            clear hK K
            try simp only [Act.put, List.getElem_toArray, List.getElem_cons_succ, List.getElem_cons_zero, List.setIfInBounds_toArray, List.set_cons_zero, List.set_cons_succ]
            refine take_S (v := .bool false) 14 rfl (by kernel_rfl) (by kernel_rfl) hS0 (fun w' hS => by go_simp) ?_
            try simp only [Act.put, List.getElem_toArray, List.getElem_cons_succ, List.getElem_cons_zero, List.setIfInBounds_toArray, List.set_cons_zero, List.set_cons_succ]
            refine forced_S (by kernel_rfl) ?_
            simp only [List.drop_succ_cons, List.drop_zero]
            have HA6 := Lib.hid (HA5.out.below hS0)
            clear hS0 HA5
            go_wp2
            go_roundg (l.length - (k + 1))
            case measure => omega
            case rel => exact ⟨k + 1, g5, s5, by go_num, hkl, rfl, HA6, HN5⟩
          · have k1i : ((bs KD).toList == [97, 112, 112, 101, 110, 100]) = false := by rw [bs_list]; exact beq_eq_false_iff_ne.2 k1
            by_cases k2 : KD = [99, 117, 116]
            · have k2i : ((bs KD).toList == [99, 117, 116]) = true := by rw [k2, bs_list]; rfl
              clear k1 k2
              go_wp2
              have hAa := hin.out.below ((Below.refl _ _).alloc (Nat.le_refl _) (.cells #[.string (bs KD), .string (bs X), .int .i64 n] 62))
              have hARa : ARow wr.heap.size KD X n (wr.alloc (.cells #[.string (bs KD), .string (bs X), .int .i64 n] 62)) := heap_alloc_new wr _
              have hba : wr.heap.size ≠ d ∧ wr.heap.size ≠ gx ∧ wr.heap.size ≠ m := by
                obtain ⟨v0, h0⟩ := hin.out.din.is
                have h1 := h0.lt
                have h2 := h0.buf.lt
                have h3 := hin.out.tp.lt
                omega
              generalize wr.alloc (.cells #[.string (bs KD), .string (bs X), .int .i64 n] 62) = wa at *
              generalize wr.heap.size = ba at *
              have HAa := Lib.hid hAa
              have HARa := Lib.hid hARa
              clear hAa hARa hin
              have hS0 : ARow ba KD X n wa.drew := HARa.out
              refine region_S (fun w' => ARow ba KD X n w') 9 (by kernel_rfl) (by kernel_rfl) ?_
              refine take_S 0 rfl (by kernel_rfl) (by kernel_rfl) hS0 (fun w' hS => by have B0 := (ARow.cells hS).1; have B1 := (ARow.cells hS).2.1; have B2 := (ARow.cells hS).2.2; go_simp; rfl) ?_
              try simp only [Act.put, List.getElem_toArray, List.getElem_cons_succ, List.getElem_cons_zero, List.setIfInBounds_toArray, List.set_cons_zero, List.set_cons_succ]
              refine take_S 1 rfl (by kernel_rfl) (by kernel_rfl) hS0 (fun w' hS => by have B0 := (ARow.cells hS).1; have B1 := (ARow.cells hS).2.1; have B2 := (ARow.cells hS).2.2; go_simp; rfl) ?_
              try simp only [Act.put, List.getElem_toArray, List.getElem_cons_succ, List.getElem_cons_zero, List.setIfInBounds_toArray, List.set_cons_zero, List.set_cons_succ]
              refine take_S 2 rfl (by kernel_rfl) (by kernel_rfl) hS0 (fun w' hS => by have B0 := (ARow.cells hS).1; have B1 := (ARow.cells hS).2.1; have B2 := (ARow.cells hS).2.2; go_simp; rfl) ?_
              try simp only [Act.put, List.getElem_toArray, List.getElem_cons_succ, List.getElem_cons_zero, List.setIfInBounds_toArray, List.set_cons_zero, List.set_cons_succ]
              refine take_S 4 rfl (by kernel_rfl) (by kernel_rfl) hS0 (fun w' hS => by have B0 := (ARow.cells hS).1; have B1 := (ARow.cells hS).2.1; have B2 := (ARow.cells hS).2.2; go_simp; rfl) ?_
              try simp only [Act.put, List.getElem_toArray, List.getElem_cons_succ, List.getElem_cons_zero, List.setIfInBounds_toArray, List.set_cons_zero, List.set_cons_succ]
              refine take_S 5 rfl (by kernel_rfl) (by kernel_rfl) hS0 (fun w' hS => by have B0 := (ARow.cells hS).1; have B1 := (ARow.cells hS).2.1; have B2 := (ARow.cells hS).2.2; go_simp; rfl) ?_
              try simp only [Act.put, List.getElem_toArray, List.getElem_cons_succ, List.getElem_cons_zero, List.setIfInBounds_toArray, List.set_cons_zero, List.set_cons_succ]
              refine take_S 6 rfl (by kernel_rfl) (by kernel_rfl) hS0 (fun w' hS => by have B0 := (ARow.cells hS).1; have B1 := (ARow.cells hS).2.1; have B2 := (ARow.cells hS).2.2; go_simp; rfl) ?_
              try simp only [Act.put, List.getElem_toArray, List.getElem_cons_succ, List.getElem_cons_zero, List.setIfInBounds_toArray, List.set_cons_zero, List.set_cons_succ]
              refine carry_S 3 rfl (by kernel_rfl) (by decide) (by kernel_rfl) (fun K hK => ?_)
              go_simp
              have hd0 : DiskIs d gx s.b s.off s.cut wa.drew := DiskIs.below HAa.out.din.is (Below.refl _ _).drew
              have he0 := HG.out.e.below (HAa.out.below (Below.refl _ _).drew).din.b
              refine (TCut_any a d gx s.b s.off s.cut n wa.drew hd0 (he0.someS _ (by decide))).mono ?_
              intro e w3 hp0
              obtain ⟨r, rfl, _⟩ := id hp0
              obtain ⟨hER, hp⟩ := cut_post hd0 hp0
              obtain ⟨g5, hin3, hm3, hmg3, ht3⟩ := (HAa.out.below (Below.refl _ _).drew).disk hp
              have hS3 : ARow ba KD X n w3 := hS0.two ht3 hba.1 hba.2.1
              refine hK _ _ hS3 ?_
              clear hK K
              try simp only [Act.put, List.getElem_toArray, List.getElem_cons_succ, List.getElem_cons_zero, List.setIfInBounds_toArray, List.set_cons_zero, List.set_cons_succ]
              refine carry_S 7 rfl (by kernel_rfl) (by decide) (by kernel_rfl) (fun K hK => ?_)
              go_simp
              refine (RTSetCut_any m s n w3 hm3).mono ?_
              rintro e w4 ⟨rfl, hp4⟩
              have hin4 := ActIn.both hin3 HAa.out.md hmg3 HAa.out.mW hp4
              have hS4 : ARow ba KD X n w4 := hS3.two hp4.2 hba.2.2 hba.2.2
              refine hK _ _ hS4 ?_
              clear hK K
              try simp only [Act.put, List.getElem_toArray, List.getElem_cons_succ, List.getElem_cons_zero, List.setIfInBounds_toArray, List.set_cons_zero, List.set_cons_succ]
              refine carry_S 8 rfl (by kernel_rfl) (by decide) (by kernel_rfl) (fun K hK => ?_)
              go_simp
              refine (coded3_any a r _ _ _ w4 (HG.out.e.below hin4.din.b) (hER w4 (HG.out.e.below hin4.din.b))).mono ?_
              rintro e w5 ⟨rfl, hb5⟩
              rw [codedB_same]
              have hS5 := hS4.below hb5
              refine hK _ _ hS5 ?_
              clear hK K
              try simp only [Act.put, List.getElem_toArray, List.getElem_cons_succ, List.getElem_cons_zero, List.setIfInBounds_toArray, List.set_cons_zero, List.set_cons_succ]
              refine forced_S (by kernel_rfl) ?_
              simp only [List.drop_succ_cons, List.drop_zero]
              have HA5 := Lib.hid (hin4.below hb5)
              have HN5 := Lib.hid (hst.out.cut n hn63)
              generalize cutSt s n = s5 at *
              clear hS0 hS3 hS4 hS5 hp hp0 hin3 hm3 hmg3 ht3 hp4 hin4 hER hb5 HAa HARa hst hd0 he0
              go_wp2
              have hS0 : Below w5.heap.size w5 w5.drew := (Below.refl _ _).drew
              have hpo : ((!s5.off) == s5.off) = false := by cases s5.off <;> rfl
              refine region_S (fun w' => Below w5.heap.size w5 w') 15 (by kernel_rfl) (by kernel_rfl) ?_
              refine take_S 0 rfl (by kernel_rfl) (by kernel_rfl) hS0 (fun w' hS => by go_simp; rfl) ?_
              try simp only [Act.put, List.getElem_toArray, List.getElem_cons_succ, List.getElem_cons_zero, List.setIfInBounds_toArray, List.set_cons_zero, List.set_cons_succ]
              refine take_S 2 rfl (by kernel_rfl) (by kernel_rfl) hS0 (fun w' hS => by go_simp; rfl) ?_
              try simp only [Act.put, List.getElem_toArray, List.getElem_cons_succ, List.getElem_cons_zero, List.setIfInBounds_toArray, List.set_cons_zero, List.set_cons_succ]
              refine take_S 3 rfl (by kernel_rfl) (by kernel_rfl) hS0 (fun w' hS => by go_simp; rfl) ?_
              try simp only [Act.put, List.getElem_toArray, List.getElem_cons_succ, List.getElem_cons_zero, List.setIfInBounds_toArray, List.set_cons_zero, List.set_cons_succ]
              refine take_S 4 rfl (by kernel_rfl) (by kernel_rfl) hS0 (fun w' hS => by go_simp; rfl) ?_
              try simp only [Act.put, List.getElem_toArray, List.getElem_cons_succ, List.getElem_cons_zero, List.setIfInBounds_toArray, List.set_cons_zero, List.set_cons_succ]
              refine take_S 5 rfl (by kernel_rfl) (by kernel_rfl) hS0 (fun w' hS => by have c0 := (HA5.out.tp.below hS).cells.1; have c1 := (HA5.out.tp.below hS).cells.2.1; go_simp; rfl) ?_
              try simp only [Act.put, List.getElem_toArray, List.getElem_cons_succ, List.getElem_cons_zero, List.setIfInBounds_toArray, List.set_cons_zero, List.set_cons_succ]
              refine carry_S 1 rfl (by kernel_rfl) (by decide) (by kernel_rfl) (fun K hK => ?_)
              go_simp
              refine (TBytes_any d g5 s5.b s5.off s5.cut w5.drew (DiskIs.below HA5.out.din.is hS0)).mono ?_
              rintro e x ⟨rfl, rfl⟩
              refine hK _ _ hS0 ?_
              clear hK K
              try simp only [Act.put, List.getElem_toArray, List.getElem_cons_succ, List.getElem_cons_zero, List.setIfInBounds_toArray, List.set_cons_zero, List.set_cons_succ]
              refine take_S (v := .bool false) 6 rfl (by kernel_rfl) (by kernel_rfl) hS0 (fun w' hS => by go_simp) ?_
              try simp only [Act.put, List.getElem_toArray, List.getElem_cons_succ, List.getElem_cons_zero, List.setIfInBounds_toArray, List.set_cons_zero, List.set_cons_succ]
              refine take_S 7 rfl (by kernel_rfl) (by kernel_rfl) hS0 (fun w' hS => by go_simp; rfl) ?_
              try simp only [Act.put, List.getElem_toArray, List.getElem_cons_succ, List.getElem_cons_zero, List.setIfInBounds_toArray, List.set_cons_zero, List.set_cons_succ]
              refine take_S 8 rfl (by kernel_rfl) (by kernel_rfl) hS0 (fun w' hS => by go_simp; rfl) ?_
              try simp only [Act.put, List.getElem_toArray, List.getElem_cons_succ, List.getElem_cons_zero, List.setIfInBounds_toArray, List.set_cons_zero, List.set_cons_succ]
              refine take_S 10 rfl (by kernel_rfl) (by kernel_rfl) hS0 (fun w' hS => by go_simp; rfl) ?_
              try simp only [Act.put, List.getElem_toArray, List.getElem_cons_succ, List.getElem_cons_zero, List.setIfInBounds_toArray, List.set_cons_zero, List.set_cons_succ]
              refine take_S 11 rfl (by kernel_rfl) (by kernel_rfl) hS0 (fun w' hS => by go_simp; rfl) ?_
              try simp only [Act.put, List.getElem_toArray, List.getElem_cons_succ, List.getElem_cons_zero, List.setIfInBounds_toArray, List.set_cons_zero, List.set_cons_succ]
              refine take_S 12 rfl (by kernel_rfl) (by kernel_rfl) hS0 (fun w' hS => by go_simp; rfl) ?_
              try simp only [Act.put, List.getElem_toArray, List.getElem_cons_succ, List.getElem_cons_zero, List.setIfInBounds_toArray, List.set_cons_zero, List.set_cons_succ]
              refine take_S 13 rfl (by kernel_rfl) (by kernel_rfl) hS0 (fun w' hS => by have c0 := (HA5.out.tp.below hS).cells.1; have c1 := (HA5.out.tp.below hS).cells.2.1; go_simp; rfl) ?_
              try simp only [Act.put, List.getElem_toArray, List.getElem_cons_succ, List.getElem_cons_zero, List.setIfInBounds_toArray, List.set_cons_zero, List.set_cons_succ]
              refine carry_S 9 rfl (by kernel_rfl) (by decide) (by kernel_rfl) (fun K hK => ?_)
              go_simp
              refine (TPower_any d g5 s5.b s5.off s5.cut w5.drew (DiskIs.below HA5.out.din.is hS0)).mono ?_
              rintro e x ⟨rfl, rfl⟩
              refine hK _ _ hS0 ?_
              clear hK K
              try simp only [Act.put, List.getElem_toArray, List.getElem_cons_succ, List.getElem_cons_zero, List.setIfInBounds_toArray, List.set_cons_zero, List.set_cons_succ]
              refine take_S (v := .bool false) 14 rfl (by kernel_rfl) (by kernel_rfl) hS0 (fun w' hS => by go_simp) ?_
              try simp only [Act.put, List.getElem_toArray, List.getElem_cons_succ, List.getElem_cons_zero, List.setIfInBounds_toArray, List.set_cons_zero, List.set_cons_succ]
              refine forced_S (by kernel_rfl) ?_
              simp only [List.drop_succ_cons, List.drop_zero]
              have HA6 := Lib.hid (HA5.out.below hS0)
              clear hS0 HA5
              go_wp2
              go_roundg (l.length - (k + 1))
              case measure => omega
              case rel => exact ⟨k + 1, g5, s5, by go_num, hkl, rfl, HA6, HN5⟩
            · have k2i : ((bs KD).toList == [99, 117, 116]) = false := by rw [bs_list]; exact beq_eq_false_iff_ne.2 k2
              by_cases k3 : KD = [111, 110]
              · have k3i : ((bs KD).toList == [111, 110]) = true := by rw [k3, bs_list]; rfl
                clear k1 k2 k3
                go_wp2_with fail
                have hAa := hin.out.below ((Below.refl _ _).alloc (Nat.le_refl _) (.cells #[.string (bs KD), .string (bs X), .int .i64 n] 62))
                have hARa : ARow wr.heap.size KD X n (wr.alloc (.cells #[.string (bs KD), .string (bs X), .int .i64 n] 62)) := heap_alloc_new wr _
                have hba : wr.heap.size ≠ d ∧ wr.heap.size ≠ gx ∧ wr.heap.size ≠ m := by
                  obtain ⟨v0, h0⟩ := hin.out.din.is
                  have h1 := h0.lt
                  have h2 := h0.buf.lt
                  have h3 := hin.out.tp.lt
                  omega
                generalize wr.alloc (.cells #[.string (bs KD), .string (bs X), .int .i64 n] 62) = wa at *
                generalize wr.heap.size = ba at *
                have HAa := Lib.hid hAa
                have HARa := Lib.hid hARa
                clear hAa hARa hin
                refine (TOn_any d gx s.b s.off s.cut wa HAa.out.din.is).mono ?_
                rintro e w3 ⟨rfl, hd3, ht3⟩
                obtain ⟨g5, hin3, hm3, hmg3, _⟩ := HAa.out.disk (s' := ⟨s.b, false, -1⟩) ⟨gx, hd3, .inl rfl, ht3⟩
                obtain ⟨c0, c1, c2, f0, f1, f2⟩ := hm3.cells
                have HA5 : Hid (ActIn a W d g5 m ⟨s.b, false, -1⟩ ((w3.setCell ⟨m, 1, none⟩ (.bool false)).setCell ⟨m, 2, none⟩ (.int .i64 (-1)))) := Lib.hid (ActIn.both hin3 HAa.out.md hmg3 HAa.out.mW ⟨(hm3.set1 false).set2 (-1), ((Two.refl m m w3).setCell 1 _).setCell 2 _⟩)
                have HN5 := Lib.hid hst.out.on
                clear hin3 hm3 hmg3 ht3 hd3 HAa HARa hst
                go_wp2
                generalize (w3.setCell ⟨m, 1, none⟩ (.bool false)).setCell ⟨m, 2, none⟩ (.int .i64 (-1)) = w5 at *
                generalize (⟨s.b, false, -1⟩ : DSt) = s5 at *
                have hS0 : Below w5.heap.size w5 w5.drew := (Below.refl _ _).drew
                have hpo : ((!s5.off) == s5.off) = false := by cases s5.off <;> rfl
                refine region_S (fun w' => Below w5.heap.size w5 w') 15 (by kernel_rfl) (by kernel_rfl) ?_
                refine take_S 0 rfl (by kernel_rfl) (by kernel_rfl) hS0 (fun w' hS => by go_simp; rfl) ?_
                try simp only [Act.put, List.getElem_toArray, List.getElem_cons_succ, List.getElem_cons_zero, List.setIfInBounds_toArray, List.set_cons_zero, List.set_cons_succ]
                refine take_S 2 rfl (by kernel_rfl) (by kernel_rfl) hS0 (fun w' hS => by go_simp; rfl) ?_
                try simp only [Act.put, List.getElem_toArray, List.getElem_cons_succ, List.getElem_cons_zero, List.setIfInBounds_toArray, List.set_cons_zero, List.set_cons_succ]
                refine take_S 3 rfl (by kernel_rfl) (by kernel_rfl) hS0 (fun w' hS => by go_simp; rfl) ?_
                try simp only [Act.put, List.getElem_toArray, List.getElem_cons_succ, List.getElem_cons_zero, List.setIfInBounds_toArray, List.set_cons_zero, List.set_cons_succ]
                refine take_S 4 rfl (by kernel_rfl) (by kernel_rfl) hS0 (fun w' hS => by go_simp; rfl) ?_
                try simp only [Act.put, List.getElem_toArray, List.getElem_cons_succ, List.getElem_cons_zero, List.setIfInBounds_toArray, List.set_cons_zero, List.set_cons_succ]
                refine take_S 5 rfl (by kernel_rfl) (by kernel_rfl) hS0 (fun w' hS => by have c0 := (HA5.out.tp.below hS).cells.1; have c1 := (HA5.out.tp.below hS).cells.2.1; go_simp; rfl) ?_
                try simp only [Act.put, List.getElem_toArray, List.getElem_cons_succ, List.getElem_cons_zero, List.setIfInBounds_toArray, List.set_cons_zero, List.set_cons_succ]
                refine carry_S 1 rfl (by kernel_rfl) (by decide) (by kernel_rfl) (fun K hK => ?_)
                go_simp
                refine (TBytes_any d g5 s5.b s5.off s5.cut w5.drew (DiskIs.below HA5.out.din.is hS0)).mono ?_
                rintro e x ⟨rfl, rfl⟩
                refine hK _ _ hS0 ?_
                clear hK K
                try simp only [Act.put, List.getElem_toArray, List.getElem_cons_succ, List.getElem_cons_zero, List.setIfInBounds_toArray, List.set_cons_zero, List.set_cons_succ]
                refine take_S (v := .bool false) 6 rfl (by kernel_rfl) (by kernel_rfl) hS0 (fun w' hS => by go_simp) ?_
                try simp only [Act.put, List.getElem_toArray, List.getElem_cons_succ, List.getElem_cons_zero, List.setIfInBounds_toArray, List.set_cons_zero, List.set_cons_succ]
                refine take_S 7 rfl (by kernel_rfl) (by kernel_rfl) hS0 (fun w' hS => by go_simp; rfl) ?_
                try simp only [Act.put, List.getElem_toArray, List.getElem_cons_succ, List.getElem_cons_zero, List.setIfInBounds_toArray, List.set_cons_zero, List.set_cons_succ]
                refine take_S 8 rfl (by kernel_rfl) (by kernel_rfl) hS0 (fun w' hS => by go_simp; rfl) ?_
                try simp only [Act.put, List.getElem_toArray, List.getElem_cons_succ, List.getElem_cons_zero, List.setIfInBounds_toArray, List.set_cons_zero, List.set_cons_succ]
                refine take_S 10 rfl (by kernel_rfl) (by kernel_rfl) hS0 (fun w' hS => by go_simp; rfl) ?_
                try simp only [Act.put, List.getElem_toArray, List.getElem_cons_succ, List.getElem_cons_zero, List.setIfInBounds_toArray, List.set_cons_zero, List.set_cons_succ]
                refine take_S 11 rfl (by kernel_rfl) (by kernel_rfl) hS0 (fun w' hS => by go_simp; rfl) ?_
                try simp only [Act.put, List.getElem_toArray, List.getElem_cons_succ, List.getElem_cons_zero, List.setIfInBounds_toArray, List.set_cons_zero, List.set_cons_succ]
                refine take_S 12 rfl (by kernel_rfl) (by kernel_rfl) hS0 (fun w' hS => by go_simp; rfl) ?_
                try simp only [Act.put, List.getElem_toArray, List.getElem_cons_succ, List.getElem_cons_zero, List.setIfInBounds_toArray, List.set_cons_zero, List.set_cons_succ]
                refine take_S 13 rfl (by kernel_rfl) (by kernel_rfl) hS0 (fun w' hS => by have c0 := (HA5.out.tp.below hS).cells.1; have c1 := (HA5.out.tp.below hS).cells.2.1; go_simp; rfl) ?_
                try simp only [Act.put, List.getElem_toArray, List.getElem_cons_succ, List.getElem_cons_zero, List.setIfInBounds_toArray, List.set_cons_zero, List.set_cons_succ]
                refine carry_S 9 rfl (by kernel_rfl) (by decide) (by kernel_rfl) (fun K hK => ?_)
                go_simp
                refine (TPower_any d g5 s5.b s5.off s5.cut w5.drew (DiskIs.below HA5.out.din.is hS0)).mono ?_
                rintro e x ⟨rfl, rfl⟩
                refine hK _ _ hS0 ?_
                clear hK K
                try simp only [Act.put, List.getElem_toArray, List.getElem_cons_succ, List.getElem_cons_zero, List.setIfInBounds_toArray, List.set_cons_zero, List.set_cons_succ]
                refine take_S (v := .bool false) 14 rfl (by kernel_rfl) (by kernel_rfl) hS0 (fun w' hS => by go_simp) ?_
                try simp only [Act.put, List.getElem_toArray, List.getElem_cons_succ, List.getElem_cons_zero, List.setIfInBounds_toArray, List.set_cons_zero, List.set_cons_succ]
                refine forced_S (by kernel_rfl) ?_
                simp only [List.drop_succ_cons, List.drop_zero]
                have HA6 := Lib.hid (HA5.out.below hS0)
                clear hS0 HA5
                go_wp2
                go_roundg (l.length - (k + 1))
                case measure => omega
                case rel => exact ⟨k + 1, g5, s5, by go_num, hkl, rfl, HA6, HN5⟩
              · have k3i : ((bs KD).toList == [111, 110]) = false := by rw [bs_list]; exact beq_eq_false_iff_ne.2 k3
                clear k1 k2 k3
                go_wp2_with fail
                have hAa := hin.out.below ((Below.refl _ _).alloc (Nat.le_refl _) (.cells #[.string (bs KD), .string (bs X), .int .i64 n] 62))
                have hARa : ARow wr.heap.size KD X n (wr.alloc (.cells #[.string (bs KD), .string (bs X), .int .i64 n] 62)) := heap_alloc_new wr _
                have hba : wr.heap.size ≠ d ∧ wr.heap.size ≠ gx ∧ wr.heap.size ≠ m := by
                  obtain ⟨v0, h0⟩ := hin.out.din.is
                  have h1 := h0.lt
                  have h2 := h0.buf.lt
                  have h3 := hin.out.tp.lt
                  omega
                generalize wr.alloc (.cells #[.string (bs KD), .string (bs X), .int .i64 n] 62) = wa at *
                generalize wr.heap.size = ba at *
                have HAa := Lib.hid hAa
                have HARa := Lib.hid hARa
                clear hAa hARa hin
                refine (TRecover_any a W d gx s wa HAa.out.din HBL.out).mono ?_
                rintro e w3 ⟨vx, rfl, hrow3, _, hp3⟩
                obtain ⟨g5, hin3, hm3, hmg3, ht3⟩ := HAa.out.disk hp3
                have HI3 := Lib.hid hin3
                have HM3 := Lib.hid hm3
                have HR3 := Lib.hid hrow3
                have HMG := Lib.hid hmg3
                have HST := Lib.hid hst.out
                have HBZ := Lib.hid (show m < wa.heap.size from HAa.out.tp.lt)
                have HSZ := Lib.hid ht3.size
                clear hin3 hm3 hrow3 hmg3 ht3 hp3 hst
                go_wp2_with fail
                refine (RTRecover_any m s HBL.out w3 HM3.out).mono ?_
                rintro e w4 ⟨vy, rfl, hrow4, hp4⟩
                have HA4 := Lib.hid (ActIn.both HI3.out HAa.out.md HMG.out HAa.out.mW hp4)
                have hrd1 : Rd w4 w4.heap.size vx ((readAll s.b).map VT) := Rd.own (own_one HR3.out HBZ.out hp4.2)
                have hrd2 : Rd w4 w4.heap.size vy ((readAll s.b).map VT) := Rd.own hrow4
                have hlr : (readAll s.b).length ≤ 2 ^ 62 := by have h1 := recs_count (readAll s.b); have h2 := (readAll_take s.b).2; have h3 := HBL.out; omega
                have HD1 := Lib.hid hrd1
                have HD2 := Lib.hid hrd2
                have HLR := Lib.hid hlr
                clear hrow4 hp4 hrd1 hrd2 hlr HAa HARa HR3 HM3 HI3 HMG
                go_wp2_with fail
                refine (SameTexts_any vx vy _ _ w4.heap.size w4 HD1.out HD2.out HLR.out HLR.out).mono ?_
                rintro e w6 ⟨rfl, q, rfl⟩
                have hdt : decide (readAll s.b = readAll s.b) = true := by simp
                rw [hdt]
                have HA5 := Lib.hid (HA4.out.below (below_drewN (Below.refl _ _) q))
                have HN5 := Lib.hid HST.out.recover
                clear hdt HA4 HD1 HD2
                generalize w4.drewN q = w5 at *
                generalize rcSt s = s5 at *
                go_wp2
                have hS0 : Below w5.heap.size w5 w5.drew := (Below.refl _ _).drew
                have hpo : ((!s5.off) == s5.off) = false := by cases s5.off <;> rfl
                refine region_S (fun w' => Below w5.heap.size w5 w') 15 (by kernel_rfl) (by kernel_rfl) ?_
                refine take_S 0 rfl (by kernel_rfl) (by kernel_rfl) hS0 (fun w' hS => by go_simp; rfl) ?_
                try simp only [Act.put, List.getElem_toArray, List.getElem_cons_succ, List.getElem_cons_zero, List.setIfInBounds_toArray, List.set_cons_zero, List.set_cons_succ]
                refine take_S 2 rfl (by kernel_rfl) (by kernel_rfl) hS0 (fun w' hS => by go_simp; rfl) ?_
                try simp only [Act.put, List.getElem_toArray, List.getElem_cons_succ, List.getElem_cons_zero, List.setIfInBounds_toArray, List.set_cons_zero, List.set_cons_succ]
                refine take_S 3 rfl (by kernel_rfl) (by kernel_rfl) hS0 (fun w' hS => by go_simp; rfl) ?_
                try simp only [Act.put, List.getElem_toArray, List.getElem_cons_succ, List.getElem_cons_zero, List.setIfInBounds_toArray, List.set_cons_zero, List.set_cons_succ]
                refine take_S 4 rfl (by kernel_rfl) (by kernel_rfl) hS0 (fun w' hS => by go_simp; rfl) ?_
                try simp only [Act.put, List.getElem_toArray, List.getElem_cons_succ, List.getElem_cons_zero, List.setIfInBounds_toArray, List.set_cons_zero, List.set_cons_succ]
                refine take_S 5 rfl (by kernel_rfl) (by kernel_rfl) hS0 (fun w' hS => by have c0 := (HA5.out.tp.below hS).cells.1; have c1 := (HA5.out.tp.below hS).cells.2.1; go_simp; rfl) ?_
                try simp only [Act.put, List.getElem_toArray, List.getElem_cons_succ, List.getElem_cons_zero, List.setIfInBounds_toArray, List.set_cons_zero, List.set_cons_succ]
                refine carry_S 1 rfl (by kernel_rfl) (by decide) (by kernel_rfl) (fun K hK => ?_)
                go_simp
                refine (TBytes_any d g5 s5.b s5.off s5.cut w5.drew (DiskIs.below HA5.out.din.is hS0)).mono ?_
                rintro e x ⟨rfl, rfl⟩
                refine hK _ _ hS0 ?_
                clear hK K
                try simp only [Act.put, List.getElem_toArray, List.getElem_cons_succ, List.getElem_cons_zero, List.setIfInBounds_toArray, List.set_cons_zero, List.set_cons_succ]
                refine take_S (v := .bool false) 6 rfl (by kernel_rfl) (by kernel_rfl) hS0 (fun w' hS => by go_simp) ?_
                try simp only [Act.put, List.getElem_toArray, List.getElem_cons_succ, List.getElem_cons_zero, List.setIfInBounds_toArray, List.set_cons_zero, List.set_cons_succ]
                refine take_S 7 rfl (by kernel_rfl) (by kernel_rfl) hS0 (fun w' hS => by go_simp; rfl) ?_
                try simp only [Act.put, List.getElem_toArray, List.getElem_cons_succ, List.getElem_cons_zero, List.setIfInBounds_toArray, List.set_cons_zero, List.set_cons_succ]
                refine take_S 8 rfl (by kernel_rfl) (by kernel_rfl) hS0 (fun w' hS => by go_simp; rfl) ?_
                try simp only [Act.put, List.getElem_toArray, List.getElem_cons_succ, List.getElem_cons_zero, List.setIfInBounds_toArray, List.set_cons_zero, List.set_cons_succ]
                refine take_S 10 rfl (by kernel_rfl) (by kernel_rfl) hS0 (fun w' hS => by go_simp; rfl) ?_
                try simp only [Act.put, List.getElem_toArray, List.getElem_cons_succ, List.getElem_cons_zero, List.setIfInBounds_toArray, List.set_cons_zero, List.set_cons_succ]
                refine take_S 11 rfl (by kernel_rfl) (by kernel_rfl) hS0 (fun w' hS => by go_simp; rfl) ?_
                try simp only [Act.put, List.getElem_toArray, List.getElem_cons_succ, List.getElem_cons_zero, List.setIfInBounds_toArray, List.set_cons_zero, List.set_cons_succ]
                refine take_S 12 rfl (by kernel_rfl) (by kernel_rfl) hS0 (fun w' hS => by go_simp; rfl) ?_
                try simp only [Act.put, List.getElem_toArray, List.getElem_cons_succ, List.getElem_cons_zero, List.setIfInBounds_toArray, List.set_cons_zero, List.set_cons_succ]
                refine take_S 13 rfl (by kernel_rfl) (by kernel_rfl) hS0 (fun w' hS => by have c0 := (HA5.out.tp.below hS).cells.1; have c1 := (HA5.out.tp.below hS).cells.2.1; go_simp; rfl) ?_
                try simp only [Act.put, List.getElem_toArray, List.getElem_cons_succ, List.getElem_cons_zero, List.setIfInBounds_toArray, List.set_cons_zero, List.set_cons_succ]
                refine carry_S 9 rfl (by kernel_rfl) (by decide) (by kernel_rfl) (fun K hK => ?_)
                go_simp
                refine (TPower_any d g5 s5.b s5.off s5.cut w5.drew (DiskIs.below HA5.out.din.is hS0)).mono ?_
                rintro e x ⟨rfl, rfl⟩
                refine hK _ _ hS0 ?_
                clear hK K
                try simp only [Act.put, List.getElem_toArray, List.getElem_cons_succ, List.getElem_cons_zero, List.setIfInBounds_toArray, List.set_cons_zero, List.set_cons_succ]
                refine take_S (v := .bool false) 14 rfl (by kernel_rfl) (by kernel_rfl) hS0 (fun w' hS => by go_simp) ?_
                try simp only [Act.put, List.getElem_toArray, List.getElem_cons_succ, List.getElem_cons_zero, List.setIfInBounds_toArray, List.set_cons_zero, List.set_cons_succ]
                refine forced_S (by kernel_rfl) ?_
                simp only [List.drop_succ_cons, List.drop_zero]
                have HA6 := Lib.hid (HA5.out.below hS0)
                clear hS0 HA5
                go_wp2
                go_roundg (l.length - (k + 1))
                case measure => omega
                case rel => exact ⟨k + 1, g5, s5, by go_num, hkl, rfl, HA6, HN5⟩
        · have hX2i : (((bs X).size : Int) != 40001) = true := by rw [bs_size]; simp; omega
          have HB := Lib.hid (hin.out.below ((Below.refl _ _).alloc (Nat.le_refl _) (.cells #[.string (bs KD), .string (bs X), .int .i64 n] 62))).din.b
          go_wp2
          go_ret
          exact ⟨rfl, HB.out⟩
    · obtain rfl : k = l.length := by omega
      obtain ⟨c0, c1, c2, f0, f1, f2⟩ := hin.out.tp.cells
      have HSZ : Hid ((bs s.b).size ≤ 2 ^ 30) := Lib.hid (by rw [bs_size]; exact HBL.out)
      have hlr : (readAll s.b).length ≤ 2 ^ 62 := by have h1 := recs_count (readAll s.b); have h2 := (readAll_take s.b).2; have h3 := HBL.out; omega
      have HLR := Lib.hid hlr
      clear hlr hst
      go_wp2_with fail
      refine (Read_any (bs s.b) HSZ.out wr hin.out.din.tap).mono ?_
      rintro e w3 ⟨vx, rfl, hrow3, hB3⟩
      rw [bs_toList] at hrow3 ⊢
      have HI3 := Lib.hid (hin.out.below hB3)
      have HR3 := Lib.hid hrow3
      obtain ⟨c0, c1, c2, f0, f1, f2⟩ := HI3.out.tp.cells
      clear hrow3 hB3 hin
      go_wp2_with fail
      refine (RReadTape_any (bs s.b) HSZ.out w3).mono ?_
      rintro e w4 ⟨vy, rfl, hrow4, hB4⟩
      rw [bs_toList] at hrow4 ⊢
      have HI4 := Lib.hid (HI3.out.below hB4)
      have HD1 : Hid (Rd w4 w4.heap.size vx ((readAll s.b).map VT)) := Lib.hid (Rd.own (own_below HR3.out hB4))
      have HD2 : Hid (Rd w4 w4.heap.size vy ((readAll s.b).map VT)) := Lib.hid (Rd.own hrow4)
      generalize (recsOf (readAll s.b)).length = q at *
      clear hrow4 hB4 HI3 HR3
      go_wp2_with fail
      refine (SameTexts_any vx vy _ _ w4.heap.size w4 HD1.out HD2.out HLR.out HLR.out).mono ?_
      rintro e w6 ⟨rfl, q2, rfl⟩
      have hdt : decide (readAll s.b = readAll s.b) = true := by simp
      rw [hdt]
      clear hdt
      go_wp2
      go_ret
      exact ⟨rfl, below_drewN HI4.out.din.b _⟩
end Go.Proofs.YtpacalklcdlhoaaDoor

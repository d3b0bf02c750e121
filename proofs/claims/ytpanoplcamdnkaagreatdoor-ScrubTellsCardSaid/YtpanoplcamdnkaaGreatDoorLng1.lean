/- RcO, LnH in one text. Conditions: as each part says. -/
import Derived.Test.YtpanoplcamdnkaaGreatDoorIds1
import Derived.OwnWalk
import Derived.Test.YtpanoplcamdnkaaGreatDoorHlds
/- Walks of the law's LongRecipe, OwnRecipe. No conditions but bounds. -/
namespace Go.Proofs.YtpanoplcamdnkaaGreatDoor
open Go.RowKit Go.Lib

def longR (r : Rcp) : Int := if 30 < r.name.length ∨ (60 < r.ids.length ∧ r.ids.length ≠ 251) then 1 else 0
set_option maxRecDepth 100000 in
theorem LongRecipe_any (v : Value) (r : Rcp) (hn : r.name.length ≤ maxLen) (hc : r.ids.length ≤ maxLen) (B : Nat) (w : World) (hv : RcpV w B v r) :
    Calls Tryz.prog 32 #[v] w fun e w' => e = .returned (.int .i64 (longR r)) ∧ Below w.heap.size w w' := by
  obtain ⟨sl, rfl, hrd⟩ := hv
  obtain ⟨A, c, rfl, _, _⟩ := hrd.form
  have hb0 : Below w.heap.size w (w.alloc (.cells #[VT r.name, .int .i64 r.len, .int .u32 (r.print : Int), .slice A r.ids.length c] 65)) := (Below.refl _ w).alloc (Nat.le_refl _) _
  obtain ⟨c0, c1, c2, c3, _⟩ : Box4 w.heap.size (VT r.name) (.int .i64 r.len) (.int .u32 (r.print : Int)) (.slice A r.ids.length c) (w.alloc (.cells #[VT r.name, .int .i64 r.len, .int .u32 (r.print : Int), .slice A r.ids.length c] 65)) := Box4.mk' _ _ _ _ _ _
  have HZ := Lib.hid (bs_size r.name)
  have hz1 : (bs r.name).size ≤ maxLen := by rw [HZ.out]; exact hn
  unfold maxLen at hz1 hc
  have HB0 := Lib.hid hb0
  clear hrd hb0 hn
  by_cases h1 : 30 < r.name.length
  · have h1i : ((bs r.name).size : Int) > 30 := by rw [HZ.out]; omega
    have HR : Hid (longR r = 1) := Lib.hid (if_pos (.inl h1))
    clear h1
    go_enter Tryz.func32, Tryz.ntmps32
    go_wp2
    go_ret
    exact ⟨by rw [HR.out]; rfl, HB0.out⟩
  · have h1i : ¬ ((bs r.name).size : Int) > 30 := by rw [HZ.out]; omega
    by_cases h2 : 60 < r.ids.length
    · have h2i : (r.ids.length : Int) > 60 := by omega
      by_cases h3 : r.ids.length = 251
      · have h3i : ((r.ids.length : Int) != 251) = false := by rw [h3]; rfl
        have HR : Hid (longR r = 0) := Lib.hid (if_neg (by omega))
        clear h1 h2 h3
        go_enter Tryz.func32, Tryz.ntmps32
        go_wp2
        go_ret
        exact ⟨by rw [HR.out]; rfl, HB0.out⟩
      · have h3i : ((r.ids.length : Int) != 251) = true := by simp; omega
        have HR : Hid (longR r = 1) := Lib.hid (if_pos (.inr ⟨h2, h3⟩))
        clear h1 h2 h3
        go_enter Tryz.func32, Tryz.ntmps32
        go_wp2
        go_ret
        exact ⟨by rw [HR.out]; rfl, HB0.out⟩
    · have h2i : ¬ (r.ids.length : Int) > 60 := by omega
      have HR : Hid (longR r = 0) := Lib.hid (if_neg (by omega))
      clear h1 h2
      go_enter Tryz.func32, Tryz.ntmps32
      go_wp2
      go_ret
      exact ⟨by rw [HR.out]; rfl, HB0.out⟩
theorem Box4.setFar {b d j : Nat} {x y z u : Value} {w : World} (h : Box4 b x y z u w) (hd : b ≠ d) (v : Value) : Box4 b x y z u (w.setCell ⟨d, j, none⟩ v) :=
  have hne : ∀ i, (⟨d, j, none⟩ : Addr) ≠ ⟨b, i, none⟩ := fun i e => by injection e with e _; exact hd e.symm
  ⟨(World.cell?_setCell_other _ _ _ _ (hne 0)).trans h.c0, (World.cell?_setCell_other _ _ _ _ (hne 1)).trans h.c1, (World.cell?_setCell_other _ _ _ _ (hne 2)).trans h.c2, (World.cell?_setCell_other _ _ _ _ (hne 3)).trans h.c3, fun i => by rw [World.frozen?_setCell]; exact h.f i⟩
set_option maxRecDepth 100000 in
set_option maxHeartbeats 1000000 in
theorem OwnRecipe_any (v : Value) (r : Rcp) (hc : r.ids.length ≤ 1000000) (w : World) (hv : RcpV w w.heap.size v r) :
    Calls Tryz.prog 33 #[v] w fun e w' => ∃ v', e = .returned v' ∧ RcpW w' w.heap.size w'.heap.size v' r ∧ Below w.heap.size w w' := by
  obtain ⟨i0, hi, hz0, hz1, hz2⟩ := info_parts info_idI
  obtain ⟨sl, rfl, hrd⟩ := hv
  obtain ⟨A, c, rfl, _, _⟩ := hrd.form
  have hb0 : Below w.heap.size w ((w.alloc (.cells #[VT r.name, .int .i64 r.len, .int .u32 (r.print : Int), .slice A r.ids.length c] 65)).alloc (.cells #[.string ⟨#[]⟩, .int .i64 0, .int .u32 0, .slice none 0 0] 65)) := ((Below.refl _ w).alloc (Nat.le_refl _) _).alloc (by simp) _
  have hbx : Box4 w.heap.size (VT r.name) (.int .i64 r.len) (.int .u32 (r.print : Int)) (.slice A r.ids.length c) ((w.alloc (.cells #[VT r.name, .int .i64 r.len, .int .u32 (r.print : Int), .slice A r.ids.length c] 65)).alloc (.cells #[.string ⟨#[]⟩, .int .i64 0, .int .u32 0, .slice none 0 0] 65)) := (Box4.mk' w _ _ _ _ _).below ((Below.refl (w.alloc _).heap.size (w.alloc _)).alloc (Nat.le_refl _) _) (by simp)
  have hbr : Box4 (w.heap.size + 1) (.string ⟨#[]⟩) (.int .i64 0) (.int .u32 0) (.slice none 0 0) ((w.alloc (.cells #[VT r.name, .int .i64 r.len, .int .u32 (r.print : Int), .slice A r.ids.length c] 65)).alloc (.cells #[.string ⟨#[]⟩, .int .i64 0, .int .u32 0, .slice none 0 0] 65)) := by
    have := Box4.mk' (w.alloc (.cells #[VT r.name, .int .i64 r.len, .int .u32 (r.print : Int), .slice A r.ids.length c] 65)) (.string ⟨#[]⟩) (.int .i64 0) (.int .u32 0) (.slice none 0 0) 65
    simpa using this
  have HRD := Lib.hid (hrd.keep hb0 (Nat.le_refl _))
  have HB0 := Lib.hid hb0
  have HBR := Lib.hid hbr
  have HBX := Lib.hid hbx
  have hlt := hbr.lt
  have c03 := hbx.c3
  clear hrd hb0 hbx hbr
  have HSZ : Hid (((w.alloc (.cells #[VT r.name, .int .i64 r.len, .int .u32 (r.print : Int), .slice A r.ids.length c] 65)).alloc (.cells #[.string ⟨#[]⟩, .int .i64 0, .int .u32 0, .slice none 0 0] 65)).heap.size = w.heap.size + 2) := Lib.hid (by simp)
  go_enter Tryz.func33, Tryz.ntmps33
  go_wp2_with (first | (at_builtin; refine wpList_append_rdM rfl (.tmp 4) (.tmp 6) 44 rfl ((w.alloc (.cells #[VT r.name, .int .i64 r.len, .int .u32 (r.print : Int), .slice A r.ids.length c] 65)).alloc (.cells #[.string ⟨#[]⟩, .int .i64 0, .int .u32 0, .slice none 0 0] 65)).heap.size 47 i0 (.agg #[.int .u32 0, .int .i64 0]) 2 16 Tryz.underlying44 hi hz0 hz1 hz2 rfl (by decide) _ 0 [] rfl (World.ownsRow_nil _ _ _ _) w.heap.size _ r.ids.length (idRow r.ids) rfl HRD.out (idRow_one _) (by unfold maxLen; omega) (by omega) (Nat.le_refl _) ?_; intro v5 w5 ho5 hg5; have HS5 := Lib.hid ((Below.refl ((w.alloc (.cells #[VT r.name, .int .i64 r.len, .int .u32 (r.print : Int), .slice A r.ids.length c] 65)).alloc (.cells #[.string ⟨#[]⟩, .int .i64 0, .int .u32 0, .slice none 0 0] 65)).heap.size _).grown hg5 (Nat.le_refl _) (fun j hj => by cases hj)); have HO5 := Lib.hid ho5; obtain ⟨A5, c5, hv5⟩ := own_formI ho5; subst hv5; have hbx5 := HBX.out.below HS5.out HBX.out.lt; have hbr5 := HBR.out.below HS5.out HBR.out.lt; have HBX5 := Lib.hid hbx5; have HBR5 := Lib.hid hbr5; have d0 := hbx5.c0; have d1 := hbx5.c1; have d2 := hbx5.c2; have d3 := hbx5.c3; have f3 := hbx5.f 3; have e0 := hbr5.c0; have e1 := hbr5.c1; have e2 := hbr5.c2; have e3 := hbr5.c3; have g0 := hbr5.f 0; have g1 := hbr5.f 1; have g2 := hbr5.f 2; have g3 := hbr5.f 3; clear hbx5 hbr5 ho5 hg5 c03 hlt) | fail)
  have hz : w5.heap.size ≥ w.heap.size + 2 := by have := HS5.out.size; rw [HSZ.out] at this; exact this
  have HO6 := Lib.hid (own_setI (d := w.heap.size) (j := 3) (x := .slice A5 r.ids.length c5) HO5.out (by rw [HSZ.out]; omega))
  have HO7 := Lib.hid (own_set4 HO6.out (b := w.heap.size + 1) (by rw [HSZ.out]; omega) (VT r.name) (.int .i64 r.len) (.int .u32 (r.print : Int)) (.slice A5 r.ids.length c5))
  have HB7 := Lib.hid (below_set4 (((HB0.out.trans (HS5.out.mono HB0.out.size)).setCell (p := ⟨w.heap.size, 3, none⟩) (Nat.le_refl _) (.slice A5 r.ids.length c5))) (b := w.heap.size + 1) (by omega) (VT r.name) (.int .i64 r.len) (.int .u32 (r.print : Int)) (.slice A5 r.ids.length c5))
  have HP : Hid (RcpW (((((w5.setCell ⟨w.heap.size, 3, none⟩ (.slice A5 r.ids.length c5)).setCell ⟨w.heap.size + 1, 0, none⟩ (VT r.name)).setCell ⟨w.heap.size + 1, 1, none⟩ (.int .i64 r.len)).setCell ⟨w.heap.size + 1, 2, none⟩ (.int .u32 (r.print : Int))).setCell ⟨w.heap.size + 1, 3, none⟩ (.slice A5 r.ids.length c5)) w.heap.size (((((w5.setCell ⟨w.heap.size, 3, none⟩ (.slice A5 r.ids.length c5)).setCell ⟨w.heap.size + 1, 0, none⟩ (VT r.name)).setCell ⟨w.heap.size + 1, 1, none⟩ (.int .i64 r.len)).setCell ⟨w.heap.size + 1, 2, none⟩ (.int .u32 (r.print : Int))).setCell ⟨w.heap.size + 1, 3, none⟩ (.slice A5 r.ids.length c5)).heap.size (.agg #[VT r.name, .int .i64 r.len, .int .u32 (r.print : Int), .slice A5 r.ids.length c5]) r) := Lib.hid ⟨_, rfl, (RdB.own (by simpa using HO7.out) rfl).wide (by omega) (Nat.le_refl _)⟩
  obtain ⟨x0, x1, x2, x3, _⟩ := (HBR5.out.setFar (d := w.heap.size) (j := 3) (by omega) (.slice A5 r.ids.length c5)).set (VT r.name) (.int .i64 r.len) (.int .u32 (r.print : Int)) (.slice A5 r.ids.length c5)
  refine bodyPost_ret (v := .agg #[VT r.name, .int .i64 r.len, .int .u32 (r.print : Int), .slice A5 r.ids.length c5]) (by simp [results, Tryz.results33, go_sem, x0, x1, x2, x3]) rfl ?_
  exact ⟨_, rfl, HP.out, HB7.out⟩
end Go.Proofs.YtpanoplcamdnkaaGreatDoor
/- Walks of the laws' LongHelds, OwnHelds (out of XBfL). No conditions but bounds. -/
namespace Go.Proofs.YtpanoplcamdnkaaGreatDoor
open Go.RowKit Go.Lib

def longHB (l : HldL) : Bool := (decide (40 < l.length) && decide (l.length ≠ 251)) || l.any fun x => decide (100 < x.text.length)
theorem longH_next {l : HldL} {k : Nat} (hk : k < l.length) (h : (l.take k).any (fun x => decide (100 < x.text.length)) = false) (hx : ¬ 100 < l[k].text.length) : (l.take (k + 1)).any (fun x => decide (100 < x.text.length)) = false := by
  rw [List.take_succ_eq_append_getElem hk, List.any_append, h, List.any_cons, decide_eq_false hx]; rfl
theorem longH_hit {l : HldL} {k : Nat} (hk : k < l.length) (hx : 100 < l[k].text.length) : longHB l = true := by
  unfold longHB
  rw [Bool.or_eq_true]
  exact .inr (List.any_eq_true.2 ⟨_, List.getElem_mem hk, decide_eq_true hx⟩)
def longZ (l : HldL) : Int := if longHB l = true then 1 else 0
theorem longH_done {l : HldL} (h1 : ¬ (40 < l.length ∧ l.length ≠ 251)) (h : l.any (fun x => decide (100 < x.text.length)) = false) : longHB l = false := by
  unfold longHB
  rw [h, Bool.or_false, Bool.and_eq_false_iff]
  by_cases h40 : 40 < l.length
  · exact .inr (decide_eq_false fun h2 => h1 ⟨h40, h2⟩)
  · exact .inl (decide_eq_false h40)
set_option maxRecDepth 100000 in
set_option maxHeartbeats 1000000 in
theorem LongHelds_any (v : Value) (L : HldL) (hl : L.length ≤ maxLen) (hz : ∀ x ∈ L, x.text.length ≤ maxLen) (B : Nat) (w : World) (hv : RdL w B v L) :
    Calls Tryz.prog 34 #[v] w fun e w' => e = .returned (.int .i64 (longZ L)) ∧ w = w' := by
  obtain ⟨A, c, rfl, hlc, hx⟩ := hv.form
  have HX := Lib.hid hx
  have HZ := Lib.hid hz
  clear hx hz hv
  unfold maxLen at hl
  by_cases h80 : 40 < L.length ∧ L.length ≠ 251
  · have h80i : (L.length : Int) > 40 := by omega
    have h81i : ((L.length : Int) != 251) = true := by rw [bne_iff_ne]; omega
    have HP : Hid (longZ L = 1) := Lib.hid (by unfold longZ longHB; rw [decide_eq_true h80.1, decide_eq_true h80.2]; rfl)
    clear h80
    go_enter Tryz.func34, Tryz.ntmps34
    go_wp2
    go_ret
    exact ⟨by rw [HP.out]; rfl, rfl⟩
  · have run : ∀ (g40 : Prop), (g40 → ¬ (L.length : Int) > 40) → True := fun _ _ => trivial
    clear run
    by_cases h40 : 40 < L.length
    · have h40i : (L.length : Int) > 40 := by omega
      have h81i : ((L.length : Int) != 251) = false := by rw [bne_eq_false_iff_eq]; omega
      go_enter Tryz.func34, Tryz.ntmps34
      go_wp2
      go_loopg [3] L.length (fun gh vi wr => ∃ k : Nat, vi = .int .i64 k ∧ k ≤ L.length ∧ gh = L.length - k ∧ Hid ((L.take k).any (fun x => decide (100 < x.text.length)) = false) ∧ w = wr)
      case atStart => exact ⟨0, rfl, Nat.zero_le _, rfl, Lib.hid rfl, rfl⟩
      case round =>
        obtain ⟨k, rfl, hk, hgm, hno, rfl⟩ := hrel
        by_cases hkl : k < L.length
        · obtain ⟨g, o, rfl, hg, hcells⟩ := HX.out (by omega)
          obtain ⟨_, _, _, c3⟩ := hcells k hkl
          have b1 : (0 : Int) ≤ (k : Int) := by omega
          have b2 : (k : Int) < (L.length : Int) := by omega
          have hsz := HZ.out L[k] (List.getElem_mem hkl)
          unfold maxLen at hsz
          have Z1 := Lib.hid (bs_size L[k].text)
          clear hcells
          by_cases h2 : 100 < L[k].text.length
          · have h2i : ((bs L[k].text).size : Int) > 100 := by rw [Z1.out]; omega
            have HP : Hid (longZ L = 1) := Lib.hid (by unfold longZ; rw [if_pos (longH_hit hkl h2)])
            clear h2
            go_wp2
            go_ret
            exact ⟨by rw [HP.out]; rfl, rfl⟩
          · have h2i : ¬ ((bs L[k].text).size : Int) > 100 := by rw [Z1.out]; omega
            have HN := Lib.hid (longH_next hkl hno.out h2)
            clear h2
            go_wp2
            go_roundg (L.length - (k + 1))
            case measure => omega
            case rel => exact ⟨k + 1, by go_num, hkl, rfl, HN, rfl⟩
        · obtain rfl : k = L.length := by omega
          have HP : Hid (longZ L = 0) := Lib.hid (by
            have h := hno.out
            rw [List.take_length] at h
            unfold longZ; rw [if_neg (by rw [longH_done h80 h]; decide)])
          clear hno
          go_wp2
          go_ret
          exact ⟨by rw [HP.out]; rfl, rfl⟩
    · have h40i : ¬ (L.length : Int) > 40 := by omega
      go_enter Tryz.func34, Tryz.ntmps34
      go_wp2
      go_loopg [3] L.length (fun gh vi wr => ∃ k : Nat, vi = .int .i64 k ∧ k ≤ L.length ∧ gh = L.length - k ∧ Hid ((L.take k).any (fun x => decide (100 < x.text.length)) = false) ∧ w = wr)
      case atStart => exact ⟨0, rfl, Nat.zero_le _, rfl, Lib.hid rfl, rfl⟩
      case round =>
        obtain ⟨k, rfl, hk, hgm, hno, rfl⟩ := hrel
        by_cases hkl : k < L.length
        · obtain ⟨g, o, rfl, hg, hcells⟩ := HX.out (by omega)
          obtain ⟨_, _, _, c3⟩ := hcells k hkl
          have b1 : (0 : Int) ≤ (k : Int) := by omega
          have b2 : (k : Int) < (L.length : Int) := by omega
          have hsz := HZ.out L[k] (List.getElem_mem hkl)
          unfold maxLen at hsz
          have Z1 := Lib.hid (bs_size L[k].text)
          clear hcells
          by_cases h2 : 100 < L[k].text.length
          · have h2i : ((bs L[k].text).size : Int) > 100 := by rw [Z1.out]; omega
            have HP : Hid (longZ L = 1) := Lib.hid (by unfold longZ; rw [if_pos (longH_hit hkl h2)])
            clear h2
            go_wp2
            go_ret
            exact ⟨by rw [HP.out]; rfl, rfl⟩
          · have h2i : ¬ ((bs L[k].text).size : Int) > 100 := by rw [Z1.out]; omega
            have HN := Lib.hid (longH_next hkl hno.out h2)
            clear h2
            go_wp2
            go_roundg (L.length - (k + 1))
            case measure => omega
            case rel => exact ⟨k + 1, by go_num, hkl, rfl, HN, rfl⟩
        · obtain rfl : k = L.length := by omega
          have HP : Hid (longZ L = 0) := Lib.hid (by
            have h := hno.out
            rw [List.take_length] at h
            unfold longZ; rw [if_neg (by rw [longH_done h80 h]; decide)])
          clear hno
          go_wp2
          go_ret
          exact ⟨by rw [HP.out]; rfl, rfl⟩
set_option maxRecDepth 100000 in
theorem OwnHelds_any (v : Value) (L : HldL) (hl : L.length ≤ 2 ^ 40) (B : Nat) (w : World) (hv : RdL w B v L) :
    Calls Tryz.prog 35 #[v] w fun e w' => ∃ v', e = .returned v' ∧ w'.ownsRow w.heap.size 82 4 v' L.length (hldRow L) ∧ Below w.heap.size w w' := by
  obtain ⟨i0, hi, hz0, hz1, hz2⟩ := info_parts info_held
  have HV := Lib.hid hv
  obtain ⟨A, c, rfl, _⟩ := hv
  have HN := Lib.hid (World.ownsRow_nil w w.heap.size 82 4)
  go_enter Tryz.func35, Tryz.ntmps35
  go_wp2_with (first | (at_builtin; refine wpList_append_rdM rfl (.tmp 4) (.tmp 5) 54 rfl w.heap.size 82 i0 (.agg #[.int .u32 0, .int .i64 0, .int .i64 0, .string ByteArray.empty]) 4 40 Tryz.underlying54 hi hz0 hz1 hz2 rfl (by decide) (.slice none 0 0) 0 [] rfl HN.out B (.slice A L.length c) L.length (hldRow L) rfl HV.out (hldRow_one L) (by unfold maxLen; omega) (by omega) (Nat.le_refl _) ?_; intro v8 w8 ho8 hg8; rw [List.nil_append, Nat.zero_add] at ho8; obtain ⟨A8, c8, rfl⟩ := own_formI ho8) | fail)
  have HB8 := Lib.hid (below_grownP (Below.refl _ w) (Nat.le_refl _) HN.out hg8)
  have HO8 := Lib.hid ho8
  clear ho8 hg8
  go_ret
  exact ⟨_, rfl, HO8.out, HB8.out⟩
end Go.Proofs.YtpanoplcamdnkaaGreatDoor

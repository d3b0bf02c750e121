/- Walks of the law's LongHelds, OwnHelds, and of the reference's HeldsText, FillFault. No conditions but bounds. -/
import Derived.Test.YtpanoplcamdnkaaGreatDoorBrR
import Derived.Test.YtpanoplcamdnkaaGreatDoorBfT
import Derived.Test.YtpanoplcamdnkaaGreatDoorRefQ
namespace Go.Proofs.YtpanoplcamdnkaaGreatDoor
open Go.RowKit Go.Lib

def longHB (l : HldL) : Bool := (decide (40 < l.length) && decide (l.length ≠ 251)) || l.any fun x => decide (100 < x.text.length)
theorem longH_next {l : HldL} {k : Nat} (hk : k < l.length) (h : (l.take k).any (fun x => decide (100 < x.text.length)) = false) (hx : ¬ 100 < l[k].text.length) : (l.take (k + 1)).any (fun x => decide (100 < x.text.length)) = false := by
  rw [List.take_succ_eq_append_getElem hk, List.any_append, h, List.any_cons, decide_eq_false hx]; rfl
theorem longH_hit {l : HldL} {k : Nat} (hk : k < l.length) (hx : 100 < l[k].text.length) : longHB l = true := by
  unfold longHB
  rw [Bool.or_eq_true]
  exact .inr (List.any_eq_true.2 ⟨_, List.getElem_mem hk, decide_eq_true hx⟩)
def longZ (l : HldL) : Int := if longHB l = true then 1 else 0
theorem longH_done {l : HldL} (h1 : ¬ (40 < l.length ∧ l.length ≠ 251)) (h : l.any (fun x => decide (100 < x.text.length)) = false) : longHB l = false := by
  unfold longHB
  rw [h, Bool.or_false, Bool.and_eq_false_iff]
  by_cases h40 : 40 < l.length
  · exact .inr (decide_eq_false fun h2 => h1 ⟨h40, h2⟩)
  · exact .inl (decide_eq_false h40)
set_option maxRecDepth 100000 in
set_option maxHeartbeats 1000000 in
theorem LongHelds_any (v : Value) (L : HldL) (hl : L.length ≤ maxLen) (hz : ∀ x ∈ L, x.text.length ≤ maxLen) (B : Nat) (w : World) (hv : RdL w B v L) :
    Calls Tryz.prog 34 #[v] w fun e w' => e = .returned (.int .i64 (longZ L)) ∧ w = w' := by
  obtain ⟨A, c, rfl, hlc, hx⟩ := hv.form
  have HX := Lib.hid hx
  have HZ := Lib.hid hz
  clear hx hz hv
  unfold maxLen at hl
  by_cases h80 : 40 < L.length ∧ L.length ≠ 251
  · have h80i : (L.length : Int) > 40 := by omega
    have h81i : ((L.length : Int) != 251) = true := by rw [bne_iff_ne]; omega
    have HP : Hid (longZ L = 1) := Lib.hid (by unfold longZ longHB; rw [decide_eq_true h80.1, decide_eq_true h80.2]; rfl)
    clear h80
    go_enter Tryz.func34, Tryz.ntmps34
    go_wp2
    go_ret
    exact ⟨by rw [HP.out]; rfl, rfl⟩
  · have run : ∀ (g40 : Prop), (g40 → ¬ (L.length : Int) > 40) → True := fun _ _ => trivial
    clear run
    by_cases h40 : 40 < L.length
    · have h40i : (L.length : Int) > 40 := by omega
      have h81i : ((L.length : Int) != 251) = false := by rw [bne_eq_false_iff_eq]; omega
      go_enter Tryz.func34, Tryz.ntmps34
      go_wp2
      go_loopg [3] L.length (fun gh vi wr => ∃ k : Nat, vi = .int .i64 k ∧ k ≤ L.length ∧ gh = L.length - k ∧ Hid ((L.take k).any (fun x => decide (100 < x.text.length)) = false) ∧ w = wr)
      case atStart => exact ⟨0, rfl, Nat.zero_le _, rfl, Lib.hid rfl, rfl⟩
      case round =>
        obtain ⟨k, rfl, hk, hgm, hno, rfl⟩ := hrel
        by_cases hkl : k < L.length
        · obtain ⟨g, o, rfl, hg, hcells⟩ := HX.out (by omega)
          obtain ⟨_, _, _, c3⟩ := hcells k hkl
          have b1 : (0 : Int) ≤ (k : Int) := by omega
          have b2 : (k : Int) < (L.length : Int) := by omega
          have hsz := HZ.out L[k] (List.getElem_mem hkl)
          unfold maxLen at hsz
          have Z1 := Lib.hid (bs_size L[k].text)
          clear hcells
          by_cases h2 : 100 < L[k].text.length
          · have h2i : ((bs L[k].text).size : Int) > 100 := by rw [Z1.out]; omega
            have HP : Hid (longZ L = 1) := Lib.hid (by unfold longZ; rw [if_pos (longH_hit hkl h2)])
            clear h2
            go_wp2
            go_ret
            exact ⟨by rw [HP.out]; rfl, rfl⟩
          · have h2i : ¬ ((bs L[k].text).size : Int) > 100 := by rw [Z1.out]; omega
            have HN := Lib.hid (longH_next hkl hno.out h2)
            clear h2
            go_wp2
            go_roundg (L.length - (k + 1))
            case measure => omega
            case rel => exact ⟨k + 1, by go_num, hkl, rfl, HN, rfl⟩
        · obtain rfl : k = L.length := by omega
          have HP : Hid (longZ L = 0) := Lib.hid (by
            have h := hno.out
            rw [List.take_length] at h
            unfold longZ; rw [if_neg (by rw [longH_done h80 h]; decide)])
          clear hno
          go_wp2
          go_ret
          exact ⟨by rw [HP.out]; rfl, rfl⟩
    · have h40i : ¬ (L.length : Int) > 40 := by omega
      go_enter Tryz.func34, Tryz.ntmps34
      go_wp2
      go_loopg [3] L.length (fun gh vi wr => ∃ k : Nat, vi = .int .i64 k ∧ k ≤ L.length ∧ gh = L.length - k ∧ Hid ((L.take k).any (fun x => decide (100 < x.text.length)) = false) ∧ w = wr)
      case atStart => exact ⟨0, rfl, Nat.zero_le _, rfl, Lib.hid rfl, rfl⟩
      case round =>
        obtain ⟨k, rfl, hk, hgm, hno, rfl⟩ := hrel
        by_cases hkl : k < L.length
        · obtain ⟨g, o, rfl, hg, hcells⟩ := HX.out (by omega)
          obtain ⟨_, _, _, c3⟩ := hcells k hkl
          have b1 : (0 : Int) ≤ (k : Int) := by omega
          have b2 : (k : Int) < (L.length : Int) := by omega
          have hsz := HZ.out L[k] (List.getElem_mem hkl)
          unfold maxLen at hsz
          have Z1 := Lib.hid (bs_size L[k].text)
          clear hcells
          by_cases h2 : 100 < L[k].text.length
          · have h2i : ((bs L[k].text).size : Int) > 100 := by rw [Z1.out]; omega
            have HP : Hid (longZ L = 1) := Lib.hid (by unfold longZ; rw [if_pos (longH_hit hkl h2)])
            clear h2
            go_wp2
            go_ret
            exact ⟨by rw [HP.out]; rfl, rfl⟩
          · have h2i : ¬ ((bs L[k].text).size : Int) > 100 := by rw [Z1.out]; omega
            have HN := Lib.hid (longH_next hkl hno.out h2)
            clear h2
            go_wp2
            go_roundg (L.length - (k + 1))
            case measure => omega
            case rel => exact ⟨k + 1, by go_num, hkl, rfl, HN, rfl⟩
        · obtain rfl : k = L.length := by omega
          have HP : Hid (longZ L = 0) := Lib.hid (by
            have h := hno.out
            rw [List.take_length] at h
            unfold longZ; rw [if_neg (by rw [longH_done h80 h]; decide)])
          clear hno
          go_wp2
          go_ret
          exact ⟨by rw [HP.out]; rfl, rfl⟩
set_option maxRecDepth 100000 in
theorem OwnHelds_any (v : Value) (L : HldL) (hl : L.length ≤ 2 ^ 40) (B : Nat) (w : World) (hv : RdL w B v L) :
    Calls Tryz.prog 35 #[v] w fun e w' => ∃ v', e = .returned v' ∧ w'.ownsRow w.heap.size 82 4 v' L.length (hldRow L) ∧ Below w.heap.size w w' := by
  obtain ⟨i0, hi, hz0, hz1, hz2⟩ := info_parts info_held
  have HV := Lib.hid hv
  obtain ⟨A, c, rfl, _⟩ := hv
  have HN := Lib.hid (World.ownsRow_nil w w.heap.size 82 4)
  go_enter Tryz.func35, Tryz.ntmps35
  go_wp2_with (first | (at_builtin; refine wpList_append_rdM rfl (.tmp 4) (.tmp 5) 54 rfl w.heap.size 82 i0 (.agg #[.int .u32 0, .int .i64 0, .int .i64 0, .string ByteArray.empty]) 4 40 Tryz.underlying54 hi hz0 hz1 hz2 rfl (by decide) (.slice none 0 0) 0 [] rfl HN.out B (.slice A L.length c) L.length (hldRow L) rfl HV.out (hldRow_one L) (by unfold maxLen; omega) (by omega) (Nat.le_refl _) ?_; intro v8 w8 ho8 hg8; rw [List.nil_append, Nat.zero_add] at ho8; obtain ⟨A8, c8, rfl⟩ := own_formI ho8) | fail)
  have HB8 := Lib.hid (below_grownP (Below.refl _ w) (Nat.le_refl _) HN.out hg8)
  have HO8 := Lib.hid ho8
  clear ho8 hg8
  go_ret
  exact ⟨_, rfl, HO8.out, HB8.out⟩
set_option maxRecDepth 100000 in
set_option maxHeartbeats 4000000 in
theorem RHeldsText_any (v : Value) (L : HldL) (hL : ∀ x ∈ L, HldW x ∧ x.text.length ≤ 100000) (hl : L.length ≤ 1000) (B : Nat) (w : World) (hv : RdL w B v L) (hBw : B ≤ w.heap.size) :
    Calls Tryz.prog 41 #[v] w fun e w' => e = .returned (.string (bs (textF L))) ∧ Below w.heap.size w w' := by
  obtain ⟨A, c, rfl, hc, hx⟩ := hv.form
  have HX := Lib.hid hx
  have HL := Lib.hid hL
  have HTK : Hid (∀ k, (textF (L.take k)).length ≤ 100060000) := Lib.hid (fun k => by
    have h1 := textF_le (L := L.take k) (M := 100000) (fun x hx => hL x (List.mem_of_mem_take hx))
    have h2 : (L.take k).length ≤ 1000 := by rw [List.length_take]; omega
    omega)
  clear hx hL hv
  go_enter Tryz.func41, Tryz.ntmps41
  go_wp2
  go_loopg [3, 4] L.length (fun gh v3 v4 wr => ∃ k : Nat, v3 = VT (textF (L.take k)) ∧ v4 = .int .i64 k ∧ k ≤ L.length ∧ gh = L.length - k ∧ Hid (Below w.heap.size w wr))
  case atStart => exact ⟨0, rfl, rfl, Nat.zero_le _, rfl, Lib.hid (Below.refl _ _)⟩
  case round =>
    obtain ⟨k, rfl, rfl, hk, hgm, hB⟩ := hrel
    by_cases hkl : k < L.length
    · obtain ⟨g, o, rfl, hg, hcells⟩ := HX.out (by omega)
      obtain ⟨x0, x1, x2, x3⟩ := hcells k hkl
      have hgl : g < w.heap.size := Nat.lt_of_lt_of_le hg hBw
      have hgr : g < wr.heap.size := Nat.lt_of_lt_of_le hgl hB.out.size
      have HNX : Hid (textF (L.take (k + 1)) = textF (L.take k) ++ lineF L[k]) := Lib.hid (by rw [List.take_succ_eq_append_getElem hkl, textF_snoc])
      obtain ⟨hw, ht⟩ := HL.out L[k] (List.getElem_mem hkl)
      clear hcells
      generalize L[k] = x at *
      have P0 := Lib.hid ((hB.out.cell (p := ⟨g, o + k * 4, none⟩) hgl).trans x0)
      have P1 := Lib.hid ((hB.out.cell (p := ⟨g, o + k * 4 + 1, none⟩) hgl).trans x1)
      have P2 := Lib.hid ((hB.out.cell (p := ⟨g, o + k * 4 + 2, none⟩) hgl).trans x2)
      have P3 := Lib.hid ((hB.out.cell (p := ⟨g, o + k * 4 + 3, none⟩) hgl).trans x3)
      have b1 : (0 : Int) ≤ (k : Int) := by omega
      have b2 : (k : Int) < (L.length : Int) := by omega
      have HTX : Hid (∀ w', Calls Tryz.prog 86 #[idV x.id] w' fun e w2 => e = .returned (.string (bs (idText x.id.1 x.id.2))) ∧ Below w'.heap.size w' w2) := Lib.hid (fun w' => RIDText_any x.id.1 x.id.2 hw.1.1 hw.1.2.1 hw.1.2.2 w')
      have HIT : Hid (∀ w', Calls Tryz.prog 87 #[.int .i64 x.uses] w' fun e w2 => e = .returned (.string (bs (itoa x.uses))) ∧ Below w'.heap.size w' w2) := Lib.hid (fun w' => RDecimal_any x.uses hw.2.1 hw.2.2 w')
      have hs0 : (bs (textF (L.take k))).size ≤ 100060000 := by rw [bs_size]; exact HTK.out k
      have hs1 : (bs (idText x.id.1 x.id.2)).size ≤ 30 := by rw [bs_size]; exact idText_le30 _ _ hw.1.2.1 hw.1.2.2
      have hs2 : (bs (itoa x.uses)).size ≤ 21 := by rw [bs_size]; exact itoa_length_le _ hw.2.1 hw.2.2
      have hs3 : (bs x.text).size ≤ 100000 := by rw [bs_size]; exact ht
      have HLN : Hid (bs (textF (L.take k)) ++ bs (idText x.id.1 x.id.2) ++ ⟨#[32]⟩ ++ bs (itoa x.uses) ++ ⟨#[10]⟩ ++ bs x.text ++ ⟨#[10]⟩ = bs (textF (L.take k) ++ lineF x)) := Lib.hid (by
        unfold lineF
        rw [show textF (L.take k) ++ (idText x.id.1 x.id.2 ++ 32 :: (itoa x.uses ++ 10 :: (x.text ++ [10]))) = (((((textF (L.take k) ++ idText x.id.1 x.id.2) ++ [32]) ++ itoa x.uses) ++ [10]) ++ x.text) ++ [10] by simp, ← cat_bs, ← cat_bs, ← cat_bs, ← cat_bs, ← cat_bs, ← cat_bs]
        rfl)
      have HS0 := Lib.hid hs0
      have HS1 := Lib.hid hs1
      have HS2 := Lib.hid hs2
      have HS3z := Lib.hid hs3
      clear hs0 hs1 hs2 hs3 hw ht x0 x1 x2 x3
      generalize hT0 : bs (textF (L.take k)) = T0 at *
      generalize bs (idText x.id.1 x.id.2) = T1 at *
      generalize bs (itoa x.uses) = T2 at *
      generalize bs x.text = T3 at *
      go_wp2
      have hS0 : Below wr.heap.size wr wr.drew := (Below.refl _ _).drew
      refine region_S (fun w' => Below wr.heap.size wr w') 24 (by kernel_rfl) (by kernel_rfl) ?_
      refine take_S 0 rfl (by kernel_rfl) (by kernel_rfl) hS0 (fun w' hS => by go_simp; rfl) ?_
      refine take_S 1 rfl (by kernel_rfl) (by kernel_rfl) hS0 (fun w' hS => by go_simp; rfl) ?_
      refine take_S 2 rfl (by kernel_rfl) (by kernel_rfl) hS0 (fun w' hS => by go_simp; rfl) ?_
      refine take_S 3 rfl (by kernel_rfl) (by kernel_rfl) hS0 (fun w' hS => by go_simp; rfl) ?_
      refine take_S 4 rfl (by kernel_rfl) (by kernel_rfl) hS0 (fun w' hS => by go_simp; rfl) ?_
      refine take_S 5 rfl (by kernel_rfl) (by kernel_rfl) hS0 (fun w' hS => by have A0 := (hS.cell (p := ⟨g, o + k * 4, none⟩) hgr).trans P0.out; have A1 := (hS.cell (p := ⟨g, o + k * 4 + 1, none⟩) hgr).trans P1.out; go_simp; rfl) ?_
      refine take_S 9 rfl (by kernel_rfl) (by kernel_rfl) hS0 (fun w' hS => by go_simp; rfl) ?_
      refine take_S 10 rfl (by kernel_rfl) (by kernel_rfl) hS0 (fun w' hS => by go_simp; rfl) ?_
      refine take_S 11 rfl (by kernel_rfl) (by kernel_rfl) hS0 (fun w' hS => by go_simp; rfl) ?_
      refine take_S 12 rfl (by kernel_rfl) (by kernel_rfl) hS0 (fun w' hS => by go_simp; rfl) ?_
      refine take_S 13 rfl (by kernel_rfl) (by kernel_rfl) hS0 (fun w' hS => by have A2 := (hS.cell (p := ⟨g, o + k * 4 + 2, none⟩) hgr).trans P2.out; go_simp; rfl) ?_
      refine take_S 17 rfl (by kernel_rfl) (by kernel_rfl) hS0 (fun w' hS => by go_simp; rfl) ?_
      refine take_S 18 rfl (by kernel_rfl) (by kernel_rfl) hS0 (fun w' hS => by go_simp; rfl) ?_
      refine take_S 19 rfl (by kernel_rfl) (by kernel_rfl) hS0 (fun w' hS => by go_simp; rfl) ?_
      refine take_S 20 rfl (by kernel_rfl) (by kernel_rfl) hS0 (fun w' hS => by go_simp; rfl) ?_
      refine take_S 21 rfl (by kernel_rfl) (by kernel_rfl) hS0 (fun w' hS => by have A3 := (hS.cell (p := ⟨g, o + k * 4 + 3, none⟩) hgr).trans P3.out; go_simp; rfl) ?_
      refine carry_S 6 rfl (by kernel_rfl) (by decide) (by kernel_rfl) (fun K hK => ?_)
      go_simp
      refine (HTX.out _).mono ?_
      rintro e w2 ⟨rfl, hbw2⟩
      have hS1 : Below wr.heap.size wr w2 := hS0.trans (hbw2.mono hS0.size)
      refine hK _ _ hS1 ?_
      clear hK K
      try simp only [Act.put, List.getElem_toArray, List.getElem_cons_succ, List.getElem_cons_zero, List.setIfInBounds_toArray, List.set_cons_zero, List.set_cons_succ]
      refine take_S 7 rfl (by kernel_rfl) (by kernel_rfl) hS1 (fun w' hS => by go_simp; rw [if_neg (by have z0 := HS0.out; have z1 := HS1.out; have z2 := HS2.out; have z3 := HS3z.out; (try simp only [ByteArray.size_append, sz10, sz32]); omega)]) ?_
      refine take_S 8 rfl (by kernel_rfl) (by kernel_rfl) hS1 (fun w' hS => by go_simp; rw [if_neg (by have z0 := HS0.out; have z1 := HS1.out; have z2 := HS2.out; have z3 := HS3z.out; (try simp only [ByteArray.size_append, sz10, sz32]); omega)]) ?_
      refine carry_S 14 rfl (by kernel_rfl) (by decide) (by kernel_rfl) (fun K hK => ?_)
      go_simp
      refine (HIT.out _).mono ?_
      rintro e w3 ⟨rfl, hbw3⟩
      have hS2 : Below wr.heap.size wr w3 := hS1.trans (hbw3.mono hS1.size)
      refine hK _ _ hS2 ?_
      clear hK K
      try simp only [Act.put, List.getElem_toArray, List.getElem_cons_succ, List.getElem_cons_zero, List.setIfInBounds_toArray, List.set_cons_zero, List.set_cons_succ]
      refine take_S 15 rfl (by kernel_rfl) (by kernel_rfl) hS2 (fun w' hS => by go_simp; rw [if_neg (by have z0 := HS0.out; have z1 := HS1.out; have z2 := HS2.out; have z3 := HS3z.out; (try simp only [ByteArray.size_append, sz10, sz32]); omega)]) ?_
      refine take_S 16 rfl (by kernel_rfl) (by kernel_rfl) hS2 (fun w' hS => by go_simp; rw [if_neg (by have z0 := HS0.out; have z1 := HS1.out; have z2 := HS2.out; have z3 := HS3z.out; (try simp only [ByteArray.size_append, sz10, sz32]); omega)]) ?_
      refine take_S 22 rfl (by kernel_rfl) (by kernel_rfl) hS2 (fun w' hS => by go_simp; rw [if_neg (by have z0 := HS0.out; have z1 := HS1.out; have z2 := HS2.out; have z3 := HS3z.out; (try simp only [ByteArray.size_append, sz10, sz32]); omega)]) ?_
      refine take_S 23 rfl (by kernel_rfl) (by kernel_rfl) hS2 (fun w' hS => by go_simp; rw [if_neg (by have z0 := HS0.out; have z1 := HS1.out; have z2 := HS2.out; have z3 := HS3z.out; (try simp only [ByteArray.size_append, sz10, sz32]); omega)]) (forced_S (by kernel_rfl) ?_)
      try simp only [Act.put, List.getElem_toArray, List.getElem_cons_succ, List.getElem_cons_zero, List.setIfInBounds_toArray, List.set_cons_zero, List.set_cons_succ]
      simp only [List.drop_succ_cons, List.drop_zero]
      have HB2 := Lib.hid (hB.out.trans (hS2.mono hB.out.size))
      clear hS0 hS1 hS2 hbw2 hbw3
      go_wp2
      go_roundg (L.length - (k + 1))
      case measure => omega
      case rel => exact ⟨k + 1, by rw [HLN.out, HNX.out], by go_num, hkl, rfl, HB2⟩
    · obtain rfl : k = L.length := by omega
      rw [List.take_length]
      go_wp2
      go_ret
      exact ⟨rfl, hB.out⟩
theorem fillAt_bad {l : HldL} {i : Nat} {h : Hld} (e : ¬ (1 ≤ h.text.length ∧ h.text.length ≤ 64 ∧ 0 ≤ h.uses)) : fillAt l i h = 2 := by
  unfold fillAt
  rw [if_neg]
  unfold rightB2
  rw [Bool.and_eq_true, rightB_iff, decide_eq_true_iff]
  exact fun h => e ⟨h.1.1, h.1.2, h.2⟩
theorem fillAt_ok {l : HldL} {i : Nat} {h : Hld} (e : 1 ≤ h.text.length ∧ h.text.length ≤ 64 ∧ 0 ≤ h.uses) : fillAt l i h = markAt l i h := by
  unfold fillAt
  rw [if_pos]
  unfold rightB2
  rw [Bool.and_eq_true, rightB_iff, decide_eq_true_iff]
  exact ⟨⟨e.1, e.2.1⟩, e.2.2⟩
theorem fillF_full {l : HldL} (h : 250 < l.length) : fillF l = (7, -1) := by unfold fillF; rw [if_pos h]
theorem fillF_from {l : HldL} (h : ¬ 250 < l.length) : fillF l = fillFrom l 0 l := by unfold fillF; rw [if_neg h]
set_option maxRecDepth 100000 in
set_option maxHeartbeats 4000000 in
theorem RFillFault_any (v : Value) (L : HldL) (hL : ∀ x ∈ L, x.text.length ≤ 2 ^ 40) (hl : L.length ≤ 2 ^ 40) (B : Nat) (w : World) (hv : RdL w B v L) (hBw : B ≤ w.heap.size) :
    Calls Tryz.prog 44 #[v] w fun e w' => e = .returned (fltV (fillF L)) ∧ Below w.heap.size w w' := by
  have hb0 : Below w.heap.size w (w.alloc (.cells #[.int .i64 0, .int .i64 0] 76)) := (Below.refl _ w).alloc (Nat.le_refl _) _
  have HBX0 := Lib.hid (Box2.mk' w (.int .i64 0) (.int .i64 0) 76)
  have HB0 := Lib.hid hb0
  have HV := Lib.hid hv
  obtain ⟨A, c, rfl, hc, hx⟩ := hv.form
  have HX := Lib.hid hx
  have HL := Lib.hid hL
  clear hx hL hv hb0
  by_cases h4 : 250 < L.length
  · have h4i : (L.length : Int) > 250 := by omega
    have HG := Lib.hid (fillF_full h4)
    clear h4
    go_enter Tryz.func44, Tryz.ntmps44
    go_wp2_with fail
    generalize w.alloc (.cells #[.int .i64 0, .int .i64 0] 76) = w0 at *
    refine (RBareF_any 7 w0).mono ?_
    rintro e w1 ⟨rfl, hb1⟩
    have HB := Lib.hid (HB0.out.trans (hb1.mono HB0.out.size))
    have HBX := Lib.hid (HBX0.out.below hb1 HBX0.out.lt)
    clear hb1
    obtain ⟨t0, t1, t2⟩ := HBX.out.rd (.int .i64 7) (.int .i64 (-1))
    have HB9 := Lib.hid (below_set2 HB.out (Nat.le_refl _) (.int .i64 7) (.int .i64 (-1)))
    obtain ⟨d0, d1, f0, f1⟩ := HBX.out
    go_wp2
    refine bodyPost_ret (v := fltV (7, (-1))) (by simp [results, Tryz.results44, go_sem, t0, t1, t2, fltV]) rfl ?_
    exact ⟨by rw [HG.out], HB9.out⟩
  · have h4i : ¬ (L.length : Int) > 250 := by omega
    have HR := Lib.hid (fillF_from h4)
    go_enter Tryz.func44, Tryz.ntmps44
    go_wp2
    go_loopg [3] L.length (fun gh v3 wr => ∃ k : Nat, v3 = .int .i64 k ∧ k ≤ L.length ∧ gh = L.length - k ∧ Hid (FillSt L k) ∧ Hid (Box2 w.heap.size (.int .i64 0) (.int .i64 0) wr) ∧ Hid (Below w.heap.size w wr))
    case atStart => exact ⟨0, rfl, Nat.zero_le _, rfl, Lib.hid (FillSt.start L), HBX0, HB0⟩
    case round =>
      obtain ⟨k, rfl, hk, hgm, hst, HBX, HB⟩ := hrel
      by_cases hkl : k < L.length
      · obtain ⟨g, o, rfl, hg, hcells⟩ := HX.out (by omega)
        obtain ⟨_, _, x2, x3⟩ := hcells k hkl
        have hgl : g < w.heap.size := Nat.lt_of_lt_of_le hg hBw
        have b1 : (0 : Int) ≤ (k : Int) := by omega
        have b2 : (k : Int) < (L.length : Int) := by omega
        have HRM := Lib.hid (RMarked_any (.slice (some ⟨g, o, none⟩) L.length c) L hl HL.out k hkl B wr (HV.out.below (HB.out.mono hBw)) (Nat.le_trans hBw HB.out.size))
        have HSN := Lib.hid (hst.out.next hkl)
        have HSH := Lib.hid (hst.out.hit hkl)
        have HFB := Lib.hid (fillAt_bad (l := L) (i := k) (h := L[k]))
        have HFO := Lib.hid (fillAt_ok (l := L) (i := k) (h := L[k]))
        have hmc := markB_cases (if k = 0 then none else L[k - 1]?) L[k]
        have hmk : markAt L k L[k] = 0 ∨ markAt L k L[k] = 8 ∨ markAt L k L[k] = 9 := hmc
        have htl := HL.out L[k] (List.getElem_mem hkl)
        clear hcells hmc
        generalize markAt L k L[k] = mk at *
        generalize fillAt L k L[k] = fa at *
        generalize L[k] = x at *
        have X2 := Lib.hid x2
        have X3 := Lib.hid x3
        have ZT := Lib.hid (bs_size x.text)
        clear x2 x3
        go_wp2_with fail
        refine HRM.out.mono ?_
        rintro e w1 ⟨rfl, hb1⟩
        have HB1 := Lib.hid (HB.out.trans (hb1.mono HB.out.size))
        have HBX1 := Lib.hid (HBX.out.below hb1 HBX.out.lt)
        have y2 := (HB1.out.cell (p := ⟨g, o + k * 4 + 2, none⟩) hgl).trans X2.out
        have y3 := (HB1.out.cell (p := ⟨g, o + k * 4 + 3, none⟩) hgl).trans X3.out
        clear hb1
        by_cases h1 : x.text.length < 1
        · have h1i : ((bs x.text).size : Int) < 1 := by rw [ZT.out]; omega
          obtain rfl := HFB.out (by omega)
          have HG : Hid (fillF L = (2, (k : Int))) := Lib.hid (by rw [HR.out]; exact HSH.out (by decide))
          clear h1
          obtain ⟨t0, t1, t2⟩ := HBX1.out.rd (.int .i64 2) (.int .i64 (k : Int))
          have HB9 := Lib.hid (below_set2 HB1.out (Nat.le_refl _) (.int .i64 2) (.int .i64 (k : Int)))
          obtain ⟨d0, d1, f0, f1⟩ := HBX1.out
          go_wp2
          refine bodyPost_ret (v := fltV (2, (k : Int))) (by simp [results, Tryz.results44, go_sem, t0, t1, t2, fltV]) rfl ?_
          exact ⟨by rw [HG.out], HB9.out⟩
        · have h1i : ¬ ((bs x.text).size : Int) < 1 := by rw [ZT.out]; omega
          by_cases h2 : 64 < x.text.length
          · have h2i : ((bs x.text).size : Int) > 64 := by rw [ZT.out]; omega
            obtain rfl := HFB.out (by omega)
            have HG : Hid (fillF L = (2, (k : Int))) := Lib.hid (by rw [HR.out]; exact HSH.out (by decide))
            clear h1 h2
            obtain ⟨t0, t1, t2⟩ := HBX1.out.rd (.int .i64 2) (.int .i64 (k : Int))
            have HB9 := Lib.hid (below_set2 HB1.out (Nat.le_refl _) (.int .i64 2) (.int .i64 (k : Int)))
            obtain ⟨d0, d1, f0, f1⟩ := HBX1.out
            go_wp2
            refine bodyPost_ret (v := fltV (2, (k : Int))) (by simp [results, Tryz.results44, go_sem, t0, t1, t2, fltV]) rfl ?_
            exact ⟨by rw [HG.out], HB9.out⟩
          · have h2i : ¬ ((bs x.text).size : Int) > 64 := by rw [ZT.out]; omega
            by_cases h3 : x.uses < 0
            · obtain rfl := HFB.out (by omega)
              have HG : Hid (fillF L = (2, (k : Int))) := Lib.hid (by rw [HR.out]; exact HSH.out (by decide))
              clear h1 h2
              obtain ⟨t0, t1, t2⟩ := HBX1.out.rd (.int .i64 2) (.int .i64 (k : Int))
              have HB9 := Lib.hid (below_set2 HB1.out (Nat.le_refl _) (.int .i64 2) (.int .i64 (k : Int)))
              obtain ⟨d0, d1, f0, f1⟩ := HBX1.out
              go_wp2
              refine bodyPost_ret (v := fltV (2, (k : Int))) (by simp [results, Tryz.results44, go_sem, t0, t1, t2, fltV]) rfl ?_
              exact ⟨by rw [HG.out], HB9.out⟩
            · obtain rfl := HFO.out (by omega)
              rcases hmk with rfl | rfl | rfl
              · have HN := Lib.hid (HSN.out rfl)
                clear h1 h2
                go_wp2
                go_roundg (L.length - (k + 1))
                case measure => omega
                case rel => exact ⟨k + 1, by go_num, hkl, rfl, HN, HBX1, HB1⟩
              · have HG : Hid (fillF L = (8, (k : Int))) := Lib.hid (by rw [HR.out]; exact HSH.out (by decide))
                clear h1 h2
                obtain ⟨t0, t1, t2⟩ := HBX1.out.rd (.int .i64 8) (.int .i64 (k : Int))
                have HB9 := Lib.hid (below_set2 HB1.out (Nat.le_refl _) (.int .i64 8) (.int .i64 (k : Int)))
                obtain ⟨d0, d1, f0, f1⟩ := HBX1.out
                go_wp2
                refine bodyPost_ret (v := fltV (8, (k : Int))) (by simp [results, Tryz.results44, go_sem, t0, t1, t2, fltV]) rfl ?_
                exact ⟨by rw [HG.out], HB9.out⟩
              · have HG : Hid (fillF L = (9, (k : Int))) := Lib.hid (by rw [HR.out]; exact HSH.out (by decide))
                clear h1 h2
                obtain ⟨t0, t1, t2⟩ := HBX1.out.rd (.int .i64 9) (.int .i64 (k : Int))
                have HB9 := Lib.hid (below_set2 HB1.out (Nat.le_refl _) (.int .i64 9) (.int .i64 (k : Int)))
                obtain ⟨d0, d1, f0, f1⟩ := HBX1.out
                go_wp2
                refine bodyPost_ret (v := fltV (9, (k : Int))) (by simp [results, Tryz.results44, go_sem, t0, t1, t2, fltV]) rfl ?_
                exact ⟨by rw [HG.out], HB9.out⟩
      · obtain rfl : k = L.length := by omega
        have HG : Hid (fillF L = (0, -1)) := Lib.hid (by rw [HR.out]; exact hst.out.done)
        clear hst
        go_wp2_with fail
        refine (RFine_any wr).mono ?_
        rintro e w1 ⟨rfl, hb1⟩
        have HB1 := Lib.hid (HB.out.trans (hb1.mono HB.out.size))
        have HBX1 := Lib.hid (HBX.out.below hb1 HBX.out.lt)
        clear hb1
        obtain ⟨t0, t1, t2⟩ := HBX1.out.rd (.int .i64 0) (.int .i64 (-1))
        have HB9 := Lib.hid (below_set2 HB1.out (Nat.le_refl _) (.int .i64 0) (.int .i64 (-1)))
        obtain ⟨d0, d1, f0, f1⟩ := HBX1.out
        go_wp2
        refine bodyPost_ret (v := fltV (0, (-1))) (by simp [results, Tryz.results44, go_sem, t0, t1, t2, fltV]) rfl ?_
        exact ⟨by rw [HG.out], HB9.out⟩
end Go.Proofs.YtpanoplcamdnkaaGreatDoor

/- ScA, ScM, ScB, ScC, ScD in one text. Conditions: as each part says. -/
import Derived.Test.YtpanoplcamdnkaaGreatDoorHlds
import Derived.Test.YtpanoplcamdnkaaGreatDoorBin1
import Derived.Test.YtpanoplcamdnkaaGreatDoorPln3
import Derived.Test.YtpanoplcamdnkaaGreatDoorNod3
import Derived.Test.YtpanoplcamdnkaaGreatDoorRcq3
import Derived.Test.YtpanoplcamdnkaaGreatDoorBse1
/- Walks of slices.IndexFunc, slices.ContainsFunc at pieces and at IDs, of scrub.has. No conditions. -/
namespace Go.Proofs.YtpanoplcamdnkaaGreatDoor
open Go.RowKit Go.Lib

/-- the place of the first that is so; else -1 -/
def ixP {α : Type} (p : α → Bool) (L : List α) : Int := if L.findIdx p < L.length then (L.findIdx p : Int) else -1
theorem ixP_at {α : Type} {p : α → Bool} {L : List α} {k : Nat} (hk : k < L.length) (h : ∀ j (hj : j < k), p (L[j]'(by omega)) = false) (hp : p L[k] = true) : ixP p L = (k : Int) := by
  have e : L.findIdx p = k := (List.findIdx_eq hk).2 ⟨hp, h⟩
  unfold ixP
  rw [e, if_pos hk]
theorem ixP_none {α : Type} {p : α → Bool} {L : List α} (h : ∀ j (hj : j < L.length), p L[j] = false) : ixP p L = -1 := by
  unfold ixP
  rw [if_neg]
  rw [List.findIdx_lt_length]
  rintro ⟨x, hx, hp⟩
  obtain ⟨j, hj, rfl⟩ := List.mem_iff_getElem.1 hx
  rw [h j hj] at hp; cases hp
theorem ixP_any {α : Type} (p : α → Bool) (L : List α) : decide (ixP p L ≥ 0) = L.any p := by
  unfold ixP
  by_cases h : L.findIdx p < L.length
  · rw [if_pos h]
    obtain ⟨x, hx, hp⟩ := List.findIdx_lt_length.1 h
    rw [List.any_eq_true.2 ⟨x, hx, hp⟩]
    exact decide_eq_true (by omega)
  · rw [if_neg h]
    have : L.any p = false := by
      rw [Bool.eq_false_iff]
      intro ha
      obtain ⟨x, hx, hp⟩ := List.any_eq_true.1 ha
      exact h (List.findIdx_lt_length.2 ⟨x, hx, hp⟩)
    rw [this]; rfl
set_option maxRecDepth 100000 in
set_option maxHeartbeats 2000000 in
theorem IxHeld_any (p : Hld → Bool) (b : Nat) (v : Value) (L : HldL) (hl : L.length ≤ 1000000) (w : World) (hv : RdL w w.heap.size v L) (hF : ∀ x ∈ L, ∀ w', Below w.heap.size w w' → Calls Tryz.prog 185 #[hldV x, .pointer (some ⟨b, 0, none⟩)] w' fun e w'' => e = .returned (.bool (p x)) ∧ Below w'.heap.size w' w'') :
    Calls Tryz.prog 233 #[v, .func (.func 185) #[] #[.pointer (some ⟨b, 0, none⟩)]] w fun e w' => e = .returned (.int .i64 (ixP p L)) ∧ Below w.heap.size w w' := by
  obtain ⟨A, c, rfl, hcap, hcells⟩ := hv.form
  have HX := Lib.hid hcells
  have HF := Lib.hid hF
  clear hcells hv hF
  go_enter Tryz.func233, Tryz.ntmps233
  go_wp2
  go_loopg [8] L.length (fun gh vi wr => ∃ (k : Nat), vi = .int .i64 k ∧ k ≤ L.length ∧ gh = L.length - k ∧ Hid (∀ j (hj : j < k) (hl : j < L.length), p L[j] = false) ∧ Hid (Below w.heap.size w wr))
  case atStart => exact ⟨0, rfl, Nat.zero_le _, rfl, Lib.hid (fun j hj => absurd hj (Nat.not_lt_zero _)), Lib.hid (Below.refl _ _)⟩
  case round =>
    obtain ⟨k, rfl, hk, hgm, HI, HB⟩ := hrel
    by_cases hkl : k < L.length
    · obtain ⟨g, o, rfl, hg, hx⟩ := HX.out (by omega)
      obtain ⟨x0, x1, x2, x3⟩ := hx k hkl
      have y0 := (HB.out.cell (p := ⟨g, o + k * 4, none⟩) hg).trans x0
      have y1 := (HB.out.cell (p := ⟨g, o + k * 4 + 1, none⟩) hg).trans x1
      have y2 := (HB.out.cell (p := ⟨g, o + k * 4 + 2, none⟩) hg).trans x2
      have y3 := (HB.out.cell (p := ⟨g, o + k * 4 + 3, none⟩) hg).trans x3
      clear x0 x1 x2 x3
      have b1 : (0 : Int) ≤ (k : Int) := by omega
      have b2 : (k : Int) < (L.length : Int) := by omega
      have HC := Lib.hid (HF.out L[k] (List.getElem_mem hkl) wr HB.out)
      have hmem := hkl
      clear hx
      go_wp2_with fail
      refine HC.out.mono ?_
      rintro e w2 ⟨rfl, hb2⟩
      have HB2 := Lib.hid (HB.out.trans (hb2.mono HB.out.size))
      clear hb2 HC
      cases hp : p L[k] with
      | true =>
        have HQ := Lib.hid (ixP_at hkl (fun j hj => HI.out j hj (by omega)) hp)
        clear hp
        go_wp2
        go_ret
        exact ⟨by rw [HQ.out]; rfl, HB2.out⟩
      | false =>
        have HI2 : Hid (∀ j (hj : j < k + 1) (hl : j < L.length), p L[j] = false) := Lib.hid (fun j hj hl => by
          by_cases e : j = k
          · subst e; exact hp
          · exact HI.out j (by omega) hl)
        clear hp
        go_wp2
        go_roundg (L.length - (k + 1))
        case measure => omega
        case rel => exact ⟨k + 1, by go_num, hkl, rfl, HI2, HB2⟩
    · obtain rfl : k = L.length := by omega
      have HQ := Lib.hid (ixP_none (fun j hj => HI.out j hj hj))
      go_wp2
      go_ret
      exact ⟨by rw [HQ.out]; rfl, HB.out⟩
set_option maxRecDepth 100000 in
theorem CtHeld_any (p : Hld → Bool) (b : Nat) (v : Value) (L : HldL) (hl : L.length ≤ 1000000) (w : World) (hv : RdL w w.heap.size v L) (hF : ∀ x ∈ L, ∀ w', Below w.heap.size w w' → Calls Tryz.prog 185 #[hldV x, .pointer (some ⟨b, 0, none⟩)] w' fun e w'' => e = .returned (.bool (p x)) ∧ Below w'.heap.size w' w'') :
    Calls Tryz.prog 184 #[v, .func (.func 185) #[] #[.pointer (some ⟨b, 0, none⟩)]] w fun e w' => e = .returned (.bool (L.any p)) ∧ Below w.heap.size w w' := by
  have HC := Lib.hid (IxHeld_any p b v L hl w hv hF)
  have HQ := Lib.hid (ixP_any p L)
  obtain ⟨A, c, rfl, _⟩ := hv.form
  clear hv hF
  go_enter Tryz.func184, Tryz.ntmps184
  go_wp2_with fail
  refine HC.out.mono ?_
  rintro e w2 ⟨rfl, hb2⟩
  have HB2 := Lib.hid hb2
  clear hb2 HC
  go_wp2
  go_ret
  exact ⟨by rw [← HQ.out]; rfl, HB2.out⟩
/-! ### has -/
theorem ScHas1_any (h : Hld) (x : Idn) (b : Nat) (w : World) (hb : Box2 b (.int .u32 (x.1 : Int)) (.int .i64 x.2) w) :
    Calls Tryz.prog 185 #[hldV h, .pointer (some ⟨b, 0, none⟩)] w fun e w' => e = .returned (.bool (decide (h.id = x))) ∧ Below w.heap.size w w' := by
  obtain ⟨⟨i1, i2⟩, us, tx⟩ := h
  obtain ⟨x1, x2⟩ := x
  have hb1 : Below w.heap.size w (w.alloc (.cells #[.int .u32 (i1 : Int), .int .i64 i2, .int .i64 us, .string (bs tx)] 82)) := (Below.refl _ _).alloc (Nat.le_refl _) _
  obtain ⟨c0, c1, _⟩ := Box4.mk' w (.int .u32 (i1 : Int)) (.int .i64 i2) (.int .i64 us) (.string (bs tx)) 82
  obtain ⟨d0, d1, _, _⟩ := hb.below hb1 hb.lt
  have HB1 := Lib.hid hb1
  show Calls Tryz.prog 185 #[hldV ⟨(i1, i2), us, tx⟩, .pointer (some ⟨b, 0, none⟩)] w fun e w' => e = .returned (.bool (decide ((i1, i2) = (x1, x2)))) ∧ Below w.heap.size w w'
  simp only at d0 d1
  clear hb1 hb
  by_cases h1 : i1 = x1
  · subst h1
    by_cases h2 : i2 = x2
    · subst h2
      rw [decide_eq_true rfl]
      go_enter Tryz.func185, Tryz.ntmps185
      go_wp2
      go_ret
      exact ⟨rfl, HB1.out⟩
    · rw [decide_eq_false (fun e => h2 (congrArg Prod.snd e))]
      go_enter Tryz.func185, Tryz.ntmps185
      go_wp2
      go_ret
      exact ⟨rfl, HB1.out⟩
  · have h1i : ¬ ((i1 : Int) = (x1 : Int)) := by omega
    rw [decide_eq_false (fun e => h1 (congrArg Prod.fst e))]
    go_enter Tryz.func185, Tryz.ntmps185
    go_wp2
    go_ret
    exact ⟨rfl, HB1.out⟩
theorem ScHas_any (v : Value) (L : HldL) (hl : L.length ≤ 1000000) (x : Idn) (w : World) (hv : RdL w w.heap.size v L) :
    Calls Tryz.prog 134 #[v, idV x] w fun e w' => e = .returned (.bool (L.any fun h => decide (h.id = x))) ∧ Below w.heap.size w w' := by
  have hb1 : Below w.heap.size w (w.alloc (.cells #[.int .u32 (x.1 : Int), .int .i64 x.2] 47)) := (Below.refl _ _).alloc (Nat.le_refl _) _
  have hx := Box2.mk' w (.int .u32 (x.1 : Int)) (.int .i64 x.2) 47
  have HC := Lib.hid (CtHeld_any (fun h => decide (h.id = x)) w.heap.size v L hl _ ((hv.below hb1).more hb1.size) (fun h _ w' hb => ScHas1_any h x w.heap.size w' (hx.below hb hx.lt)))
  obtain ⟨A, c, rfl, _⟩ := hv.form
  have HB1 := Lib.hid hb1
  clear hb1 hx hv
  go_enter Tryz.func134, Tryz.ntmps134
  go_wp2_with fail
  refine HC.out.mono ?_
  rintro e w2 ⟨rfl, hb2⟩
  have HB2 := Lib.hid (HB1.out.trans (hb2.mono HB1.out.size))
  clear hb2 HC HB1
  go_wp2
  go_ret
  exact ⟨rfl, HB2.out⟩
end Go.Proofs.YtpanoplcamdnkaaGreatDoor
/- Rows of recipes and of loads in memory: what is read of them, what keeps it. No conditions. -/
namespace Go.Proofs.YtpanoplcamdnkaaGreatDoor
open Go.RowKit Go.Lib

theorem RdL.keep {w w' : World} {B B' : Nat} {v : Value} {L : HldL} (h : RdL w B v L) (hb : Below B' w w') (h1 : B ≤ B') : RdL w' B v L := by
  obtain ⟨A, c, hv, hl, hc, hx⟩ := h
  refine ⟨A, c, hv, hl, hc, fun h0 => ?_⟩
  obtain ⟨g, o, hA, hg, hcell⟩ := hx h0
  exact ⟨g, o, hA, hg, fun k u hu => (hb.cell (p := ⟨g, o + k, none⟩) (Nat.lt_of_lt_of_le hg h1)).trans (hcell k u hu)⟩
/-- v is a slice that reads as the recipes rs, below block B -/
def RsRd (w : World) (B : Nat) (v : Value) (rs : List Rcp) : Prop := ∃ A c, v = .slice A rs.length c ∧ rs.length ≤ c ∧ (0 < rs.length → ∃ g o, A = some ⟨g, o, none⟩ ∧ g < B ∧ ∀ k (hk : k < rs.length), ∃ sl, RdI w B sl rs[k].ids ∧
    w.cell? ⟨g, o + k * 4, none⟩ = some (VT rs[k].name) ∧ w.cell? ⟨g, o + k * 4 + 1, none⟩ = some (.int .i64 rs[k].len) ∧ w.cell? ⟨g, o + k * 4 + 2, none⟩ = some (.int .u32 (rs[k].print : Int)) ∧ w.cell? ⟨g, o + k * 4 + 3, none⟩ = some sl)
theorem RsRd.keep {w w' : World} {B B' : Nat} {v : Value} {rs : List Rcp} (h : RsRd w B v rs) (hb : Below B' w w') (h1 : B ≤ B') : RsRd w' B v rs := by
  obtain ⟨A, c, hv, hc, hx⟩ := h
  refine ⟨A, c, hv, hc, fun h0 => ?_⟩
  obtain ⟨g, o, hA, hg, hcell⟩ := hx h0
  have hg' : g < B' := by omega
  exact ⟨g, o, hA, hg, fun k hk => by
    obtain ⟨sl, hr, c0, c1, c2, c3⟩ := hcell k hk
    exact ⟨sl, hr.keep hb h1, (hb.cell (p := ⟨g, o + k * 4, none⟩) hg').trans c0, (hb.cell (p := ⟨g, o + k * 4 + 1, none⟩) hg').trans c1, (hb.cell (p := ⟨g, o + k * 4 + 2, none⟩) hg').trans c2, (hb.cell (p := ⟨g, o + k * 4 + 3, none⟩) hg').trans c3⟩⟩
theorem RsRd.more {w : World} {B B' : Nat} {v : Value} {rs : List Rcp} (h : RsRd w B v rs) (hB : B ≤ B') : RsRd w B' v rs := by
  obtain ⟨A, c, hv, hc, hx⟩ := h
  refine ⟨A, c, hv, hc, fun h0 => ?_⟩
  obtain ⟨g, o, hA, hg, hcell⟩ := hx h0
  exact ⟨g, o, hA, by omega, fun k hk => by
    obtain ⟨sl, hr, h2⟩ := hcell k hk
    exact ⟨sl, hr.more hB, h2⟩⟩
theorem RsRd.below {w w' : World} {v : Value} {rs : List Rcp} (h : RsRd w w.heap.size v rs) (hb : Below w.heap.size w w') : RsRd w' w'.heap.size v rs := (h.keep hb (Nat.le_refl _)).more hb.size
theorem RsRd.nil (w : World) (B : Nat) : RsRd w B (.slice none 0 0) [] := ⟨none, 0, rfl, Nat.le_refl _, fun h => absurd h (by simp)⟩
/-- v is a slice that reads as the loads bs, below block B -/
def LdRd (w : World) (B : Nat) (v : Value) (ls : List Load) : Prop := ∃ A c, v = .slice A ls.length c ∧ ls.length ≤ c ∧ (0 < ls.length → ∃ g o, A = some ⟨g, o, none⟩ ∧ g < B ∧ ∀ k (hk : k < ls.length), ∃ sl, RdL w B sl ls[k].l ∧
    w.cell? ⟨g, o + k * 3, none⟩ = some (.int .u32 (ls[k].rep.1 : Int)) ∧ w.cell? ⟨g, o + k * 3 + 1, none⟩ = some (.int .i64 ls[k].rep.2) ∧ w.cell? ⟨g, o + k * 3 + 2, none⟩ = some sl)
theorem LdRd.keep {w w' : World} {B B' : Nat} {v : Value} {ls : List Load} (h : LdRd w B v ls) (hb : Below B' w w') (h1 : B ≤ B') : LdRd w' B v ls := by
  obtain ⟨A, c, hv, hc, hx⟩ := h
  refine ⟨A, c, hv, hc, fun h0 => ?_⟩
  obtain ⟨g, o, hA, hg, hcell⟩ := hx h0
  have hg' : g < B' := by omega
  exact ⟨g, o, hA, hg, fun k hk => by
    obtain ⟨sl, hr, c0, c1, c2⟩ := hcell k hk
    exact ⟨sl, hr.keep hb h1, (hb.cell (p := ⟨g, o + k * 3, none⟩) hg').trans c0, (hb.cell (p := ⟨g, o + k * 3 + 1, none⟩) hg').trans c1, (hb.cell (p := ⟨g, o + k * 3 + 2, none⟩) hg').trans c2⟩⟩
theorem LdRd.more {w : World} {B B' : Nat} {v : Value} {ls : List Load} (h : LdRd w B v ls) (hB : B ≤ B') : LdRd w B' v ls := by
  obtain ⟨A, c, hv, hc, hx⟩ := h
  refine ⟨A, c, hv, hc, fun h0 => ?_⟩
  obtain ⟨g, o, hA, hg, hcell⟩ := hx h0
  exact ⟨g, o, hA, by omega, fun k hk => by
    obtain ⟨sl, hr, h2⟩ := hcell k hk
    exact ⟨sl, hr.more hB, h2⟩⟩
theorem LdRd.below {w w' : World} {v : Value} {ls : List Load} (h : LdRd w w.heap.size v ls) (hb : Below w.heap.size w w') : LdRd w' w'.heap.size v ls := (h.keep hb (Nat.le_refl _)).more hb.size
theorem LdRd.nil (w : World) (B : Nat) : LdRd w B (.slice none 0 0) [] := ⟨none, 0, rfl, Nat.le_refl _, fun h => absurd h (by simp)⟩
end Go.Proofs.YtpanoplcamdnkaaGreatDoor
/- Walks of slices.IndexFunc at loads and at IDs, slices.ContainsFunc at IDs, of the closures of scrub.file. No conditions. -/
namespace Go.Proofs.YtpanoplcamdnkaaGreatDoor
open Go.RowKit Go.Lib

abbrev ldV (x : Load) (sl : Value) : Value := .agg #[.int .u32 (x.rep.1 : Int), .int .i64 x.rep.2, sl]
set_option maxRecDepth 100000 in
set_option maxHeartbeats 2000000 in
theorem IxLoad_any (p : Load → Bool) (b : Nat) (v : Value) (L : List Load) (hl : L.length ≤ 1000000) (w : World) (hv : LdRd w w.heap.size v L) (hF : ∀ x ∈ L, ∀ A n c w', Below w.heap.size w w' → Calls Tryz.prog 131 #[ldV x (.slice A n c), .pointer (some ⟨b, 0, none⟩)] w' fun e w'' => e = .returned (.bool (p x)) ∧ Below w'.heap.size w' w'') :
    Calls Tryz.prog 130 #[v, .func (.func 131) #[] #[.pointer (some ⟨b, 0, none⟩)]] w fun e w' => e = .returned (.int .i64 (ixP p L)) ∧ Below w.heap.size w w' := by
  obtain ⟨A, c, rfl, hcap, hcells⟩ := hv
  have HX := Lib.hid hcells
  have HF := Lib.hid hF
  clear hcells hF
  go_enter Tryz.func130, Tryz.ntmps130
  go_wp2
  go_loopg [8] L.length (fun gh vi wr => ∃ (k : Nat), vi = .int .i64 k ∧ k ≤ L.length ∧ gh = L.length - k ∧ Hid (∀ j (hj : j < k) (hl : j < L.length), p L[j] = false) ∧ Hid (Below w.heap.size w wr))
  case atStart => exact ⟨0, rfl, Nat.zero_le _, rfl, Lib.hid (fun j hj => absurd hj (Nat.not_lt_zero _)), Lib.hid (Below.refl _ _)⟩
  case round =>
    obtain ⟨k, rfl, hk, hgm, HI, HB⟩ := hrel
    by_cases hkl : k < L.length
    · obtain ⟨g, o, rfl, hg, hx⟩ := HX.out (by omega)
      obtain ⟨sl, hrl, x0, x1, x2⟩ := hx k hkl
      obtain ⟨LA, lc, rfl, _⟩ := hrl.form
      have y0 := (HB.out.cell (p := ⟨g, o + k * 3, none⟩) hg).trans x0
      have y1 := (HB.out.cell (p := ⟨g, o + k * 3 + 1, none⟩) hg).trans x1
      have y2 := (HB.out.cell (p := ⟨g, o + k * 3 + 2, none⟩) hg).trans x2
      clear x0 x1 x2
      have b1 : (0 : Int) ≤ (k : Int) := by omega
      have b2 : (k : Int) < (L.length : Int) := by omega
      have HC := Lib.hid (HF.out L[k] (List.getElem_mem hkl) LA L[k].l.length lc wr HB.out)
      have hmem := hkl
      clear hx
      go_wp2_with fail
      refine HC.out.mono ?_
      rintro e w2 ⟨rfl, hb2⟩
      have HB2 := Lib.hid (HB.out.trans (hb2.mono HB.out.size))
      clear hb2 HC
      cases hp : p L[k] with
      | true =>
        have HQ := Lib.hid (ixP_at hkl (fun j hj => HI.out j hj (by omega)) hp)
        clear hp
        go_wp2
        go_ret
        exact ⟨by rw [HQ.out]; rfl, HB2.out⟩
      | false =>
        have HI2 : Hid (∀ j (hj : j < k + 1) (hl : j < L.length), p L[j] = false) := Lib.hid (fun j hj hl => by
          by_cases e : j = k
          · subst e; exact hp
          · exact HI.out j (by omega) hl)
        clear hp
        go_wp2
        go_roundg (L.length - (k + 1))
        case measure => omega
        case rel => exact ⟨k + 1, by go_num, hkl, rfl, HI2, HB2⟩
    · obtain rfl : k = L.length := by omega
      have HQ := Lib.hid (ixP_none (fun j hj => HI.out j hj hj))
      go_wp2
      go_ret
      exact ⟨by rw [HQ.out]; rfl, HB.out⟩
set_option maxRecDepth 100000 in
theorem ScFile1_any (x : Load) (A : Option Addr) (n c : Nat) (rep : Idn) (b : Nat) (w : World) (hb : Box2 b (.int .u32 (rep.1 : Int)) (.int .i64 rep.2) w) :
    Calls Tryz.prog 131 #[ldV x (.slice A n c), .pointer (some ⟨b, 0, none⟩)] w fun e w' => e = .returned (.bool (decide (x.rep = rep))) ∧ Below w.heap.size w w' := by
  obtain ⟨⟨i1, i2⟩, l⟩ := x
  obtain ⟨x1, x2⟩ := rep
  have hb1 : Below w.heap.size w (w.alloc (.cells #[.int .u32 (i1 : Int), .int .i64 i2, .slice A n c] 72)) := (Below.refl _ _).alloc (Nat.le_refl _) _
  obtain ⟨c0, c1, c2⟩ := Box3.mk' w (.int .u32 (i1 : Int)) (.int .i64 i2) (.slice A n c) 72
  obtain ⟨d0, d1, _, _⟩ := hb.below hb1 hb.lt
  have HB1 := Lib.hid hb1
  show Calls Tryz.prog 131 #[ldV ⟨(i1, i2), l⟩ (.slice A n c), .pointer (some ⟨b, 0, none⟩)] w fun e w' => e = .returned (.bool (decide ((i1, i2) = (x1, x2)))) ∧ Below w.heap.size w w'
  simp only at d0 d1
  clear hb1 hb
  by_cases h1 : i1 = x1
  · subst h1
    by_cases h2 : i2 = x2
    · subst h2
      rw [decide_eq_true rfl]
      go_enter Tryz.func131, Tryz.ntmps131
      go_wp2
      go_ret
      exact ⟨rfl, HB1.out⟩
    · rw [decide_eq_false (fun e => h2 (congrArg Prod.snd e))]
      go_enter Tryz.func131, Tryz.ntmps131
      go_wp2
      go_ret
      exact ⟨rfl, HB1.out⟩
  · have h1i : ¬ ((i1 : Int) = (x1 : Int)) := by omega
    rw [decide_eq_false (fun e => h1 (congrArg Prod.fst e))]
    go_enter Tryz.func131, Tryz.ntmps131
    go_wp2
    go_ret
    exact ⟨rfl, HB1.out⟩
set_option maxRecDepth 100000 in
set_option maxHeartbeats 2000000 in
theorem IxID_any (p : Idn → Bool) (b b2 : Nat) (v : Value) (L : IdL) (hl : L.length ≤ 1000000) (w : World) (hv : RdI w w.heap.size v L) (hF : ∀ x ∈ L, ∀ w', Below w.heap.size w w' → Calls Tryz.prog 133 #[idV x, .pointer (some ⟨b, 0, none⟩), .pointer (some ⟨b2, 0, none⟩)] w' fun e w'' => e = .returned (.bool (p x)) ∧ Below w'.heap.size w' w'') :
    Calls Tryz.prog 183 #[v, .func (.func 133) #[] #[.pointer (some ⟨b, 0, none⟩), .pointer (some ⟨b2, 0, none⟩)]] w fun e w' => e = .returned (.int .i64 (ixP p L)) ∧ Below w.heap.size w w' := by
  obtain ⟨A, c, rfl, hcap, hcells⟩ := hv.form
  have HX := Lib.hid hcells
  have HF := Lib.hid hF
  clear hcells hv hF
  go_enter Tryz.func183, Tryz.ntmps183
  go_wp2
  go_loopg [8] L.length (fun gh vi wr => ∃ (k : Nat), vi = .int .i64 k ∧ k ≤ L.length ∧ gh = L.length - k ∧ Hid (∀ j (hj : j < k) (hl : j < L.length), p L[j] = false) ∧ Hid (Below w.heap.size w wr))
  case atStart => exact ⟨0, rfl, Nat.zero_le _, rfl, Lib.hid (fun j hj => absurd hj (Nat.not_lt_zero _)), Lib.hid (Below.refl _ _)⟩
  case round =>
    obtain ⟨k, rfl, hk, hgm, HI, HB⟩ := hrel
    by_cases hkl : k < L.length
    · obtain ⟨g, o, rfl, hg, hx⟩ := HX.out (by omega)
      obtain ⟨x0, x1⟩ := hx k hkl
      have y0 := (HB.out.cell (p := ⟨g, o + k * 2, none⟩) hg).trans x0
      have y1 := (HB.out.cell (p := ⟨g, o + k * 2 + 1, none⟩) hg).trans x1
      clear x0 x1
      have b1 : (0 : Int) ≤ (k : Int) := by omega
      have b2 : (k : Int) < (L.length : Int) := by omega
      have HC := Lib.hid (HF.out L[k] (List.getElem_mem hkl) wr HB.out)
      have hmem := hkl
      clear hx
      go_wp2_with fail
      refine HC.out.mono ?_
      rintro e w2 ⟨rfl, hb2⟩
      have HB2 := Lib.hid (HB.out.trans (hb2.mono HB.out.size))
      clear hb2 HC
      cases hp : p L[k] with
      | true =>
        have HQ := Lib.hid (ixP_at hkl (fun j hj => HI.out j hj (by omega)) hp)
        clear hp
        go_wp2
        go_ret
        exact ⟨by rw [HQ.out]; rfl, HB2.out⟩
      | false =>
        have HI2 : Hid (∀ j (hj : j < k + 1) (hl : j < L.length), p L[j] = false) := Lib.hid (fun j hj hl => by
          by_cases e : j = k
          · subst e; exact hp
          · exact HI.out j (by omega) hl)
        clear hp
        go_wp2
        go_roundg (L.length - (k + 1))
        case measure => omega
        case rel => exact ⟨k + 1, by go_num, hkl, rfl, HI2, HB2⟩
    · obtain rfl : k = L.length := by omega
      have HQ := Lib.hid (ixP_none (fun j hj => HI.out j hj hj))
      go_wp2
      go_ret
      exact ⟨by rw [HQ.out]; rfl, HB.out⟩
set_option maxRecDepth 100000 in
theorem CtID_any (p : Idn → Bool) (b b2 : Nat) (v : Value) (L : IdL) (hl : L.length ≤ 1000000) (w : World) (hv : RdI w w.heap.size v L) (hF : ∀ x ∈ L, ∀ w', Below w.heap.size w w' → Calls Tryz.prog 133 #[idV x, .pointer (some ⟨b, 0, none⟩), .pointer (some ⟨b2, 0, none⟩)] w' fun e w'' => e = .returned (.bool (p x)) ∧ Below w'.heap.size w' w'') :
    Calls Tryz.prog 132 #[v, .func (.func 133) #[] #[.pointer (some ⟨b, 0, none⟩), .pointer (some ⟨b2, 0, none⟩)]] w fun e w' => e = .returned (.bool (L.any p)) ∧ Below w.heap.size w w' := by
  have HC := Lib.hid (IxID_any p b b2 v L hl w hv hF)
  have HQ := Lib.hid (ixP_any p L)
  obtain ⟨A, c, rfl, _⟩ := hv.form
  clear hv hF
  go_enter Tryz.func132, Tryz.ntmps132
  go_wp2_with fail
  refine HC.out.mono ?_
  rintro e w2 ⟨rfl, hb2⟩
  have HB2 := Lib.hid hb2
  clear hb2 HC
  go_wp2
  go_ret
  exact ⟨by rw [← HQ.out]; rfl, HB2.out⟩
end Go.Proofs.YtpanoplcamdnkaaGreatDoor
/- Walk of scrub.file's second closure: a piece that is not in a load. No conditions. -/
namespace Go.Proofs.YtpanoplcamdnkaaGreatDoor
open Go.RowKit Go.Lib

set_option maxRecDepth 100000 in
set_option maxHeartbeats 1000000 in
theorem ScFile2_any (x : Idn) (v : Value) (ls : List Load) (hl : ∀ y ∈ ls, y.l.length ≤ 1000000) (k : Nat) (hk : k < ls.length) (b b2 : Nat) (w : World) (hv : LdRd w w.heap.size v ls) (hb : w.cell? ⟨b, 0, none⟩ = some v) (hb2 : w.cell? ⟨b2, 0, none⟩ = some (.int .i64 (k : Int))) :
    Calls Tryz.prog 133 #[idV x, .pointer (some ⟨b, 0, none⟩), .pointer (some ⟨b2, 0, none⟩)] w fun e w' => e = .returned (.bool (!(ls[k].l.any fun h => decide (h.id = x)))) ∧ Below w.heap.size w w' := by
  obtain ⟨A, c, rfl, hcap, hcells⟩ := hv
  obtain ⟨g, o, rfl, hg, hx⟩ := hcells (by omega)
  obtain ⟨sl, hrl, _, _, x2⟩ := hx k hk
  obtain ⟨LA, lc, hsl, _⟩ := hrl.form
  subst hsl
  have hll := hl ls[k] (List.getElem_mem hk)
  generalize ls[k].l = L at *
  have b1 : (0 : Int) ≤ (k : Int) := by omega
  have b3 : (k : Int) < (ls.length : Int) := by omega
  have hbl : b < w.heap.size := World.block_lt_of_cell? w ⟨b, 0, none⟩ hb
  have hbl2 : b2 < w.heap.size := World.block_lt_of_cell? w ⟨b2, 0, none⟩ hb2
  have hb1 : Below w.heap.size w (w.alloc (.cells #[.int .u32 (x.1 : Int), .int .i64 x.2] 47)) := (Below.refl _ _).alloc (Nat.le_refl _) _
  have hbx := Box2.mk' w (.int .u32 (x.1 : Int)) (.int .i64 x.2) 47
  have HBX := Lib.hid hbx
  have HB1 := Lib.hid hb1
  have E0 := Lib.hid ((hb1.cell (p := ⟨b, 0, none⟩) hbl).trans hb)
  have E1 := Lib.hid ((hb1.cell (p := ⟨b2, 0, none⟩) hbl2).trans hb2)
  have E2 := Lib.hid ((hb1.cell (p := ⟨g, o + k * 3 + 2, none⟩) hg).trans x2)
  have HRL := Lib.hid ((hrl.keep hb1 (Nat.le_refl _)).more hb1.size)
  have hz1 := hb1.size
  have hgl : g < (w.alloc (.cells #[.int .u32 (x.1 : Int), .int .i64 x.2] 47)).heap.size := by omega
  have hbl' : b < (w.alloc (.cells #[.int .u32 (x.1 : Int), .int .i64 x.2] 47)).heap.size := by omega
  have hbl2' : b2 < (w.alloc (.cells #[.int .u32 (x.1 : Int), .int .i64 x.2] 47)).heap.size := by omega
  clear hcells hx hb hb2 hb1 hbx hrl x2 hz1
  go_enter Tryz.func133, Tryz.ntmps133
  go_wp2_with fail
  generalize w.alloc (.cells #[.int .u32 (x.1 : Int), .int .i64 x.2] 47) = w1 at *
  have hS0 : Below w1.heap.size w1 w1.drew := (Below.refl _ _).drew
  refine region_S (fun w' => Below w1.heap.size w1 w') 7 (by kernel_rfl) (by kernel_rfl) ?_
  refine take_S 0 rfl (by kernel_rfl) (by kernel_rfl) hS0 (fun w' hS => by have E := (hS.cell (p := ⟨b, 0, none⟩) hbl').trans E0.out; go_simp; rfl) ?_
  refine take_S 1 rfl (by kernel_rfl) (by kernel_rfl) hS0 (fun w' hS => by have E := (hS.cell (p := ⟨b2, 0, none⟩) hbl2').trans E1.out; go_simp; rfl) ?_
  refine take_S 2 rfl (by kernel_rfl) (by kernel_rfl) hS0 (fun w' hS => by go_simp; rfl) ?_
  refine take_S 3 rfl (by kernel_rfl) (by kernel_rfl) hS0 (fun w' hS => by go_simp; rfl) ?_
  refine take_S 4 rfl (by kernel_rfl) (by kernel_rfl) hS0 (fun w' hS => by have E := (hS.cell (p := ⟨g, o + k * 3 + 2, none⟩) hgl).trans E2.out; go_simp; rfl) ?_
  refine take_S 5 rfl (by kernel_rfl) (by kernel_rfl) hS0 (fun w' hS => by have E0 := (HBX.out.below hS HBX.out.lt).c0; have E1 := (HBX.out.below hS HBX.out.lt).c1; go_simp; rfl) ?_
  refine carry_S 6 rfl (by kernel_rfl) (by decide) (by kernel_rfl) (fun K hK => ?_)
  go_simp
  refine (ScHas_any (.slice LA L.length lc) L hll x _ ((HRL.out.keep hS0 (Nat.le_refl _)).more hS0.size)).mono ?_
  rintro e w2 ⟨rfl, hbw2⟩
  have hS1 : Below w1.heap.size w1 w2 := hS0.trans (hbw2.mono hS0.size)
  refine hK _ _ hS1 (forced_S (by kernel_rfl) ?_)
  clear hK K
  try simp only [Act.put, List.getElem_toArray, List.getElem_cons_succ, List.getElem_cons_zero, List.setIfInBounds_toArray, List.set_cons_zero, List.set_cons_succ]
  try simp only [Act.put, List.getElem_toArray, List.getElem_cons_succ, List.getElem_cons_zero, List.setIfInBounds_toArray, List.set_cons_zero, List.set_cons_succ]
  simp only [List.drop_succ_cons, List.drop_zero]
  have HB2 := Lib.hid (HB1.out.trans (hS1.mono HB1.out.size))
  clear hS0 hS1 hbw2
  go_wp2
  go_ret
  exact ⟨rfl, HB2.out⟩
end Go.Proofs.YtpanoplcamdnkaaGreatDoor
/- Walk of scrub.file. Condition: the sentinels that are read lie as named (SomeS). -/
namespace Go.Proofs.YtpanoplcamdnkaaGreatDoor
open Go.RowKit Go.Lib

theorem ixP_find {α : Type} (p : α → Bool) (L : List α) : (ixP p L = -1 ∧ L.find? p = none) ∨ ∃ k, ∃ hk : k < L.length, ixP p L = (k : Int) ∧ L.find? p = some L[k] := by
  by_cases h : L.findIdx p < L.length
  · refine .inr ⟨L.findIdx p, h, if_pos h, ?_⟩
    rw [List.find?_eq_some_iff_getElem]
    exact ⟨List.findIdx_getElem (w := h), L.findIdx p, h, rfl, fun j hj => by simpa using List.not_of_lt_findIdx hj⟩
  · refine .inl ⟨if_neg h, ?_⟩
    rw [List.find?_eq_none]
    intro x hx hp
    exact h (List.findIdx_lt_length.2 ⟨x, hx, hp⟩)
theorem bs_listS (l : Bytes) : (bs l).toList = l := by rw [ByteArray.toList_eq, bs_toList]
set_option maxRecDepth 100000 in
set_option maxHeartbeats 4000000 in
theorem ScFile_first (a : Nat → Addr) (vf vb : Value) (fs : List Rcp) (ls : List Load) (hfl : fs.length ≤ 1000000) (hll : ls.length ≤ 1000000) (hlb : ∀ y ∈ ls, y.l.length ≤ 1000000) (i : Nat) (hi : i < fs.length) (hr : RcpB fs[i]) (hi0 : i = 0) (w : World) (hf : RsRd w w.heap.size vf fs) (hl : LdRd w w.heap.size vb ls) (hs : SomeS [1, 2, 3, 4, 6, 7, 8] a w) :
    Calls Tryz.prog 78 #[vf, .int .i64 (i : Int), vb] w fun e w' => ∃ x, e = .returned x ∧ ES a x (fileS (prevR fs i) fs[i] ls) ∧ Below w.heap.size w w' := by
  have b1 : (0 : Int) ≤ (i : Int) := by omega
  have b2 : (i : Int) < (fs.length : Int) := by omega
  have hfp : 0 < fs.length := by omega
  have b7 : ¬ ((i : Int) > 0) := by omega
  have hpr : prevR fs i = none := if_pos hi0
  have HI0 := Lib.hid hi0
  clear hi0
  obtain ⟨A, c, rfl, hcap, hcells⟩ := hf
  obtain ⟨g, o, rfl, hg, hx⟩ := hcells hfp
  obtain ⟨BA, bc, hvb, _⟩ := id hl
  subst hvb
  obtain ⟨sl, hsl, x0, x1, x2, x3⟩ := hx i hi
  obtain ⟨SA, sc, hsv, _⟩ := hsl.form
  subst hsv
  generalize hri : fs[i] = r at *
  have hb0 : Below w.heap.size w (w.alloc (.cells #[.slice BA ls.length bc] 67)) := (Below.refl _ _).alloc (Nat.le_refl _) _
  have hb1 : Below w.heap.size w ((w.alloc (.cells #[.slice BA ls.length bc] 67)).alloc (.cells #[VT r.name, .int .i64 r.len, .int .u32 (r.print : Int), .slice SA r.ids.length sc] 65)) := hb0.alloc hb0.size _
  have y0 := (hb0.cell (p := ⟨g, o + i * 4, none⟩) hg).trans x0
  have y1 := (hb0.cell (p := ⟨g, o + i * 4 + 1, none⟩) hg).trans x1
  have y2 := (hb0.cell (p := ⟨g, o + i * 4 + 2, none⟩) hg).trans x2
  have y3 := (hb0.cell (p := ⟨g, o + i * 4 + 3, none⟩) hg).trans x3
  have hbb : ((w.alloc (.cells #[.slice BA ls.length bc] 67)).alloc (.cells #[VT r.name, .int .i64 r.len, .int .u32 (r.print : Int), .slice SA r.ids.length sc] 65)).cell? ⟨w.heap.size, 0, none⟩ = some (.slice BA ls.length bc) :=
    (((Below.refl (w.alloc (.cells #[.slice BA ls.length bc] 67)).heap.size (w.alloc (.cells #[.slice BA ls.length bc] 67))).alloc (Nat.le_refl _) _).cell (p := ⟨w.heap.size, 0, none⟩) (by simp)).trans (by rw [World.cell?_alloc_at _ _ _ _ rfl]; rfl)
  have hbr : Box4 (w.heap.size + 1) (VT r.name) (.int .i64 r.len) (.int .u32 (r.print : Int)) (.slice SA r.ids.length sc) ((w.alloc (.cells #[.slice BA ls.length bc] 67)).alloc (.cells #[VT r.name, .int .i64 r.len, .int .u32 (r.print : Int), .slice SA r.ids.length sc] 65)) := by
    have := Box4.mk' (w.alloc (.cells #[.slice BA ls.length bc] 67)) (VT r.name) (.int .i64 r.len) (.int .u32 (r.print : Int)) (.slice SA r.ids.length sc) 65
    simpa using this
  have HBB := Lib.hid hbb
  have HBR := Lib.hid hbr
  have HB1 := Lib.hid hb1
  have HS := Lib.hid hs
  have HLD := Lib.hid hl
  have HSL := Lib.hid hsl
  have hrc := hr.c
  have HCK := Lib.hid (RcCheck_any a (.agg #[VT r.name, .int .i64 r.len, .int .u32 (r.print : Int), .slice SA r.ids.length sc]) r hr _ ⟨_, rfl, (hsl.keep hb1 (Nat.le_refl _)).more hb1.size⟩ ((hs.below hb1).sub (js := [1, 2, 3, 6, 8]) (by decide)))
  have hz1 : w.heap.size + 1 < ((w.alloc (.cells #[.slice BA ls.length bc] 67)).alloc (.cells #[VT r.name, .int .i64 r.len, .int .u32 (r.print : Int), .slice SA r.ids.length sc] 65)).heap.size := by simp
  clear hcells hx x0 x1 x2 x3 hb0 hb1 hs hl hsl hbb hr hri
  obtain ⟨z0, z1, z2, z3, _⟩ := hbr
  go_enter Tryz.func78, Tryz.ntmps78
  go_wp2_with fail
  generalize (w.alloc (.cells #[.slice BA ls.length bc] 67)).alloc (.cells #[VT r.name, .int .i64 r.len, .int .u32 (r.print : Int), .slice SA r.ids.length sc] 65) = w2 at *
  unfold CheckPost at HCK
  refine HCK.out.mono ?_
  rintro e w3 ⟨xe, rfl, hev, hb3⟩
  have HB3 := Lib.hid (HB1.out.trans (hb3.mono HB1.out.size))
  have BB3 := Lib.hid (hb3.cell (p := ⟨w.heap.size, 0, none⟩) (by show w.heap.size < _; omega) |>.trans HBB.out)
  have BR3 := Lib.hid (HBR.out.below hb3 HBR.out.lt)
  have hz3 : w.heap.size + 1 < w3.heap.size := Nat.lt_of_lt_of_le hz1 hb3.size
  clear z0 z1 z2 z3 y0 y1 y2 y3 hb3 HCK HBB HBR HB1 hz1
  by_cases hc0 : (rcpFault r).1 = 0
  · obtain ⟨rfl, _⟩ := hev.nil hc0
    have HF := Lib.hid (fileS_3 (prev := prevR fs i) (ls := ls) hc0 (fun p hp => by rw [hpr] at hp; cases hp))
    clear hev hc0 hpr
    obtain ⟨z0, z1, z2, z3, _⟩ := BR3.out
    go_wp2
    have hS0 : Below w3.heap.size w3 w3.drew := (Below.refl _ _).drew
    refine region_S (fun w' => Below w3.heap.size w3 w') 12 (by kernel_rfl) (by kernel_rfl) ?_
    refine take_S 0 rfl (by kernel_rfl) (by kernel_rfl) hS0 (fun w' hS => by go_simp; rfl) ?_
    refine take_S 1 (v := .bool false) rfl (by kernel_rfl) (by kernel_rfl) hS0 (fun w' hS => by have W3 := HI0.out; go_simp) ?_
    refine take_S 2 rfl (by kernel_rfl) (by kernel_rfl) hS0 (fun w' hS => by go_simp; rfl) ?_
    refine skip_S 3 rfl (by kernel_rfl) (by kernel_rfl) hS0 ?_
    refine skip_S 4 rfl (by kernel_rfl) (by kernel_rfl) hS0 ?_
    refine skip_S 5 rfl (by kernel_rfl) (by kernel_rfl) hS0 ?_
    refine skip_S 6 rfl (by kernel_rfl) (by kernel_rfl) hS0 ?_
    refine skip_S 7 rfl (by kernel_rfl) (by kernel_rfl) hS0 ?_
    refine skip_S 8 rfl (by kernel_rfl) (by kernel_rfl) hS0 ?_
    refine skip_S 9 rfl (by kernel_rfl) (by kernel_rfl) hS0 ?_
    refine skip_S 10 rfl (by kernel_rfl) (by kernel_rfl) hS0 ?_
    refine skip_S 11 rfl (by kernel_rfl) (by kernel_rfl) hS0 (forced_S (by kernel_rfl) ?_)
    try simp only [Act.put, List.getElem_toArray, List.getElem_cons_succ, List.getElem_cons_zero, List.setIfInBounds_toArray, List.set_cons_zero, List.set_cons_succ]
    simp only [List.drop_succ_cons, List.drop_zero]
    clear z0 z1 z2 z3
    have hbd := hS0
    have HBd := Lib.hid (HB3.out.trans (hbd.mono HB3.out.size))
    have BBd := Lib.hid ((hbd.cell (p := ⟨w.heap.size, 0, none⟩) (by show w.heap.size < _; omega)).trans BB3.out)
    have BRd := Lib.hid (BR3.out.below hbd BR3.out.lt)
    have hzd : w.heap.size + 1 < (w3.drew).heap.size := Nat.lt_of_lt_of_le hz3 hbd.size
    clear hS0 hbd HB3 BB3 BR3 hz3
    generalize w3.drew = wd at *
    have HRP := Lib.hid (RcRep_any (.agg #[VT r.name, .int .i64 r.len, .int .u32 (r.print : Int), .slice SA r.ids.length sc]) r hrc wd ⟨_, rfl, (HSL.out.keep HBd.out (Nat.le_refl _)).more HBd.out.size⟩)
    obtain ⟨z0, z1, z2, z3, _⟩ := BRd.out
    go_wp2_with fail
    refine HRP.out.mono ?_
    rintro e w5 ⟨rfl, hb5⟩
    have hb6 : Below wd.heap.size wd (w5.alloc (.cells #[.int .u32 ((repOf r.ids).1 : Int), .int .i64 (repOf r.ids).2] 47)) := hb5.alloc hb5.size _
    have hbx := Box2.mk' w5 (.int .u32 ((repOf r.ids).1 : Int)) (.int .i64 (repOf r.ids).2) 47
    have HBX := Lib.hid hbx
    have HB6 := Lib.hid (HBd.out.trans (hb6.mono HBd.out.size))
    have hbb6 := (hb6.cell (p := ⟨w.heap.size, 0, none⟩) (by show w.heap.size < _; omega)).trans BBd.out
    have BB6 := Lib.hid hbb6
    have BR6 := Lib.hid (BRd.out.below hb6 BRd.out.lt)
    have hz5 : w.heap.size + 1 < w5.heap.size := Nat.lt_of_lt_of_le hzd hb5.size
    have HLD6 := Lib.hid ((HLD.out.keep HB6.out (Nat.le_refl _)).more HB6.out.size)
    have HIX := Lib.hid (IxLoad_any (fun b => decide (b.rep = repOf r.ids)) w5.heap.size (.slice BA ls.length bc) ls hll _ HLD6.out (fun x _ A n c w' hb => ScFile1_any x A n c (repOf r.ids) w5.heap.size w' (HBX.out.below hb HBX.out.lt)))
    clear z0 z1 z2 z3 hb5 hb6 hbx HRP HBd BBd BRd hzd
    generalize hrp : repOf r.ids = rp at *
    have hz6 : w5.heap.size < (w5.alloc (.cells #[.int .u32 (rp.1 : Int), .int .i64 rp.2] 47)).heap.size := by simp
    go_wp2_with fail
    generalize w5.alloc (.cells #[.int .u32 (rp.1 : Int), .int .i64 rp.2] 47) = w6 at *
    refine HIX.out.mono ?_
    rintro e w7 ⟨rfl, hb7⟩
    have hb8 : Below w6.heap.size w6 (w7.alloc (.cells #[.int .i64 (ixP (fun b => decide (b.rep = rp)) ls)] 3)) := hb7.alloc hb7.size _
    have HB8 := Lib.hid (HB6.out.trans (hb8.mono HB6.out.size))
    have BB8 := Lib.hid ((hb8.cell (p := ⟨w.heap.size, 0, none⟩) (by show w.heap.size < _; omega)).trans BB6.out)
    have BR8 := Lib.hid (BR6.out.below hb8 BR6.out.lt)
    have HLD8 := Lib.hid ((HLD.out.keep HB8.out (Nat.le_refl _)).more HB8.out.size)
    have HSL8 := Lib.hid ((HSL.out.keep HB8.out (Nat.le_refl _)).more HB8.out.size)
    have hz7 : w6.heap.size ≤ w7.heap.size := hb7.size
    clear hb7 hb8 hbb6 HIX BB6 BR6 HLD6 HB6 HBX
    rcases ixP_find (fun b : Load => decide (b.rep = rp)) ls with ⟨hx1, hx2⟩ | ⟨k, hk, hx1, hx2⟩
    · rw [hx1] at HB8 BB8 BR8 HLD8 HSL8 ⊢
      have HF2 := Lib.hid (HF.out.trans (thereS_none (hrp ▸ hx2)))
      have K8 : Hid ((w7.alloc (.cells #[.int .i64 (-1)] 3)).cell? ⟨w7.heap.size, 0, none⟩ = some (.int .i64 (-1))) := Lib.hid (by rw [World.cell?_alloc_at _ _ _ _ rfl]; rfl)
      have hz8 : w7.heap.size < (w7.alloc (.cells #[.int .i64 (-1)] 3)).heap.size := by simp
      have k8 := K8.out
      have s4 : (w7.alloc (.cells #[.int .i64 (-1)] 3)).cell? ⟨2, 0, none⟩ = some (sval a 4) := (HS.out.below HB8.out) 4 (by simp)
      unfold sval at s4
      clear hx1 hx2
      go_wp2_with fail
      generalize w7.alloc (.cells #[.int .i64 (-1)] 3) = w8 at *
      have HQ : Hid (∃ x, Ending.returned (.iface 361 (.pointer (some (a 4)))) = .returned x ∧ ES a x (fileS (prevR fs i) r ls) ∧ Below w.heap.size w w8) := Lib.hid ⟨_, rfl, by rw [HF2.out]; exact ES.sent a 4 (by decide), HB8.out⟩
      go_ret
      exact HQ.out
    · rw [hx1] at HB8 BB8 BR8 HLD8 HSL8 ⊢
      have HF2 := Lib.hid (HF.out.trans (thereS_some (hrp ▸ hx2)))
      have K8 : Hid ((w7.alloc (.cells #[.int .i64 (k : Int)] 3)).cell? ⟨w7.heap.size, 0, none⟩ = some (.int .i64 (k : Int))) := Lib.hid (by rw [World.cell?_alloc_at _ _ _ _ rfl]; rfl)
      have hz8 : w7.heap.size < (w7.alloc (.cells #[.int .i64 (k : Int)] 3)).heap.size := by simp
      have hkn : ¬ ((k : Int) < 0) := by omega
      have k8 := K8.out
      obtain ⟨_, _, _, q3, _⟩ := BR8.out
      have HCT : Hid (∀ w8, w8 = w7.alloc (.cells #[.int .i64 (k : Int)] 3) → Calls Tryz.prog 132 #[.slice SA r.ids.length sc, .func (.func 133) #[] #[.pointer (some ⟨w.heap.size, 0, none⟩), .pointer (some ⟨w7.heap.size, 0, none⟩)]] w8 fun e w' => e = .returned (.bool (r.ids.any fun x => lacks x ls[k].l)) ∧ Below w8.heap.size w8 w') := Lib.hid (fun w8 e => by
        rw [← e] at HLD8 HSL8 BB8 K8 hz8
        have hzb : w.heap.size < w8.heap.size := by omega
        exact CtID_any (fun x => lacks x ls[k].l) w.heap.size w7.heap.size (.slice SA r.ids.length sc) r.ids hrc w8 HSL8.out (fun x _ w' hbb => ScFile2_any x (.slice BA ls.length bc) ls hlb k hk w.heap.size w7.heap.size w' (HLD8.out.below hbb) ((hbb.cell (p := ⟨w.heap.size, 0, none⟩) hzb).trans BB8.out) ((hbb.cell (p := ⟨w7.heap.size, 0, none⟩) hz8).trans K8.out)))
      clear hx1 hx2
      go_wp2_with fail
      have hct := HCT.out _ rfl
      generalize w7.alloc (.cells #[.int .i64 (k : Int)] 3) = w8 at *
      refine hct.mono ?_
      rintro e w9 ⟨rfl, hbw9⟩
      have HB9 := Lib.hid (HB8.out.trans (hbw9.mono HB8.out.size))
      have s4 : w9.cell? ⟨2, 0, none⟩ = some (sval a 4) := (HS.out.below HB9.out) 4 (by simp)
      unfold sval at s4
      clear hbw9 hct HCT q3 k8
      cases hany : r.ids.any (fun x => lacks x ls[k].l) with
      | true =>
        have HQ : Hid (∃ x, Ending.returned (.iface 361 (.pointer (some (a 4)))) = .returned x ∧ ES a x (fileS (prevR fs i) r ls) ∧ Below w.heap.size w w9) := Lib.hid ⟨_, rfl, by rw [HF2.out]; simp only [hany, if_true]; exact ES.sent a 4 (by decide), HB9.out⟩
        clear hany
        go_wp2
        go_ret
        exact HQ.out
      | false =>
        have HQ : Hid (∃ x, Ending.returned .nilIface = .returned x ∧ ES a x (fileS (prevR fs i) r ls) ∧ Below w.heap.size w w9) := Lib.hid ⟨_, rfl, by rw [HF2.out]; simp only [hany]; exact ES.none a, HB9.out⟩
        clear hany
        go_wp2
        go_ret
        exact HQ.out
  · have HEV := Lib.hid hev
    obtain ⟨ty, pv, rfl⟩ := hev.some hc0
    have HF := Lib.hid (fileS_1 (prev := prevR fs i) (ls := ls) hc0)
    clear hev hc0
    go_wp2_with fail
    refine (RcBare_any a _ _ _ w3 HEV.out).mono ?_
    rintro e w4 ⟨x4, rfl, hes, hb4⟩
    have HQ : Hid (∃ x, Ending.returned x4 = .returned x ∧ ES a x (fileS (prevR fs i) r ls) ∧ Below w.heap.size w w4) := Lib.hid ⟨_, rfl, by rw [HF.out]; exact hes, HB3.out.trans (hb4.mono HB3.out.size)⟩
    clear hes hb4
    go_wp2
    go_ret
    exact HQ.out
set_option maxRecDepth 100000 in
set_option maxHeartbeats 4000000 in
theorem ScFile_next (a : Nat → Addr) (vf vb : Value) (fs : List Rcp) (ls : List Load) (hfl : fs.length ≤ 1000000) (hll : ls.length ≤ 1000000) (hlb : ∀ y ∈ ls, y.l.length ≤ 1000000) (i : Nat) (hi : i < fs.length) (hr : RcpB fs[i]) (hi0 : i ≠ 0) (w : World) (hf : RsRd w w.heap.size vf fs) (hl : LdRd w w.heap.size vb ls) (hs : SomeS [1, 2, 3, 4, 6, 7, 8] a w) :
    Calls Tryz.prog 78 #[vf, .int .i64 (i : Int), vb] w fun e w' => ∃ x, e = .returned x ∧ ES a x (fileS (prevR fs i) fs[i] ls) ∧ Below w.heap.size w w' := by
  have b1 : (0 : Int) ≤ (i : Int) := by omega
  have b2 : (i : Int) < (fs.length : Int) := by omega
  have hfp : 0 < fs.length := by omega
  have hi0' : 0 < i := Nat.pos_of_ne_zero hi0
  have hi1 : i - 1 < fs.length := by omega
  have b5 : (0 : Int) ≤ (i : Int) - 1 := by omega
  have b6 : (i : Int) - 1 < (fs.length : Int) := by omega
  have b7 : (i : Int) > 0 := by omega
  have b8 : (((i - 1 : Nat)) : Int) = (i : Int) - 1 := by omega
  have hpr : prevR fs i = some fs[i - 1] := by unfold prevR; rw [if_neg hi0, List.getElem?_eq_getElem hi1]
  obtain ⟨A, c, rfl, hcap, hcells⟩ := hf
  obtain ⟨g, o, rfl, hg, hx⟩ := hcells hfp
  obtain ⟨BA, bc, hvb, _⟩ := id hl
  subst hvb
  obtain ⟨sl, hsl, x0, x1, x2, x3⟩ := hx i hi
  obtain ⟨SA, sc, hsv, _⟩ := hsl.form
  subst hsv
  obtain ⟨psl, _, p0, _, _, _⟩ := hx (i - 1) hi1
  generalize fs[i - 1] = p at *
  have P0 := Lib.hid p0
  clear p0
  generalize hri : fs[i] = r at *
  have hb0 : Below w.heap.size w (w.alloc (.cells #[.slice BA ls.length bc] 67)) := (Below.refl _ _).alloc (Nat.le_refl _) _
  have hb1 : Below w.heap.size w ((w.alloc (.cells #[.slice BA ls.length bc] 67)).alloc (.cells #[VT r.name, .int .i64 r.len, .int .u32 (r.print : Int), .slice SA r.ids.length sc] 65)) := hb0.alloc hb0.size _
  have y0 := (hb0.cell (p := ⟨g, o + i * 4, none⟩) hg).trans x0
  have y1 := (hb0.cell (p := ⟨g, o + i * 4 + 1, none⟩) hg).trans x1
  have y2 := (hb0.cell (p := ⟨g, o + i * 4 + 2, none⟩) hg).trans x2
  have y3 := (hb0.cell (p := ⟨g, o + i * 4 + 3, none⟩) hg).trans x3
  have hbb : ((w.alloc (.cells #[.slice BA ls.length bc] 67)).alloc (.cells #[VT r.name, .int .i64 r.len, .int .u32 (r.print : Int), .slice SA r.ids.length sc] 65)).cell? ⟨w.heap.size, 0, none⟩ = some (.slice BA ls.length bc) :=
    (((Below.refl (w.alloc (.cells #[.slice BA ls.length bc] 67)).heap.size (w.alloc (.cells #[.slice BA ls.length bc] 67))).alloc (Nat.le_refl _) _).cell (p := ⟨w.heap.size, 0, none⟩) (by simp)).trans (by rw [World.cell?_alloc_at _ _ _ _ rfl]; rfl)
  have hbr : Box4 (w.heap.size + 1) (VT r.name) (.int .i64 r.len) (.int .u32 (r.print : Int)) (.slice SA r.ids.length sc) ((w.alloc (.cells #[.slice BA ls.length bc] 67)).alloc (.cells #[VT r.name, .int .i64 r.len, .int .u32 (r.print : Int), .slice SA r.ids.length sc] 65)) := by
    have := Box4.mk' (w.alloc (.cells #[.slice BA ls.length bc] 67)) (VT r.name) (.int .i64 r.len) (.int .u32 (r.print : Int)) (.slice SA r.ids.length sc) 65
    simpa using this
  have HBB := Lib.hid hbb
  have HBR := Lib.hid hbr
  have HB1 := Lib.hid hb1
  have HS := Lib.hid hs
  have HLD := Lib.hid hl
  have HSL := Lib.hid hsl
  have hrc := hr.c
  have HCK := Lib.hid (RcCheck_any a (.agg #[VT r.name, .int .i64 r.len, .int .u32 (r.print : Int), .slice SA r.ids.length sc]) r hr _ ⟨_, rfl, (hsl.keep hb1 (Nat.le_refl _)).more hb1.size⟩ ((hs.below hb1).sub (js := [1, 2, 3, 6, 8]) (by decide)))
  have hz1 : w.heap.size + 1 < ((w.alloc (.cells #[.slice BA ls.length bc] 67)).alloc (.cells #[VT r.name, .int .i64 r.len, .int .u32 (r.print : Int), .slice SA r.ids.length sc] 65)).heap.size := by simp
  clear hcells hx x0 x1 x2 x3 hb0 hb1 hs hl hsl hbb hr hri
  obtain ⟨z0, z1, z2, z3, _⟩ := hbr
  go_enter Tryz.func78, Tryz.ntmps78
  go_wp2_with fail
  generalize (w.alloc (.cells #[.slice BA ls.length bc] 67)).alloc (.cells #[VT r.name, .int .i64 r.len, .int .u32 (r.print : Int), .slice SA r.ids.length sc] 65) = w2 at *
  unfold CheckPost at HCK
  refine HCK.out.mono ?_
  rintro e w3 ⟨xe, rfl, hev, hb3⟩
  have HB3 := Lib.hid (HB1.out.trans (hb3.mono HB1.out.size))
  have BB3 := Lib.hid (hb3.cell (p := ⟨w.heap.size, 0, none⟩) (by show w.heap.size < _; omega) |>.trans HBB.out)
  have BR3 := Lib.hid (HBR.out.below hb3 HBR.out.lt)
  have hz3 : w.heap.size + 1 < w3.heap.size := Nat.lt_of_lt_of_le hz1 hb3.size
  clear z0 z1 z2 z3 y0 y1 y2 y3 hb3 HCK HBB HBR HB1 hz1
  by_cases hc0 : (rcpFault r).1 = 0
  · obtain ⟨rfl, _⟩ := hev.nil hc0
    have d1 := (HB3.out.cell (p := ⟨g, o + (i - 1) * 4, none⟩) hg).trans P0.out
    by_cases hne : r.name = p.name
    · have hlq : ((bs r.name).toList == (bs p.name).toList) = true := by rw [hne]; exact beq_self_eq_true _
      have hlb : Op.bytesLess (bs r.name).toList (bs p.name).toList = false := by rw [hne, ← before_lessB]; exact bytesBefore_irr _
      have HF : Hid (fileS (prevR fs i) r ls = 8) := Lib.hid (by rw [hpr]; exact fileS_2 hc0 (by rw [hne]; exact bytesBefore_irr _))
      clear hne
      clear hev hc0 hpr
      obtain ⟨z0, z1, z2, z3, _⟩ := BR3.out
      go_wp2
      go_quiet (fail)
      have hbd := below_drewN (Below.refl w3.heap.size w3) nq
      have HBd := Lib.hid (HB3.out.trans (hbd.mono HB3.out.size))
      have s7 : (w3.drewN nq).cell? ⟨7, 0, none⟩ = some (sval a 7) := (HS.out.below HBd.out) 7 (by simp)
      unfold sval at s7
      have HQ : Hid (∃ x, Ending.returned (.iface 361 (.pointer (some (a 7)))) = .returned x ∧ ES a x (fileS (prevR fs i) r ls) ∧ Below w.heap.size w (w3.drewN nq)) := Lib.hid ⟨_, rfl, by rw [HF.out]; exact ES.sent a 7 (by decide), HBd.out⟩
      clear hbd z0 z1 z2 z3
      go_wp2
      go_ret
      exact HQ.out
    · have hlq : ((bs r.name).toList == (bs p.name).toList) = false := by rw [bs_listS, bs_listS]; exact beq_eq_false_iff_ne.2 hne
      rcases bytesBefore_total hne with hbf | hbf
      · have hlb : Op.bytesLess (bs r.name).toList (bs p.name).toList = true := by rw [bs_listS, bs_listS, ← before_lessB]; exact hbf
        have hbn : bytesBefore p.name r.name = false := by
          rw [Bool.eq_false_iff]
          intro h
          have := bytesBefore_trans hbf h
          rw [bytesBefore_irr] at this; cases this
        have HF : Hid (fileS (prevR fs i) r ls = 8) := Lib.hid (by rw [hpr]; exact fileS_2 hc0 hbn)
        clear hne hbf hbn
        clear hev hc0 hpr
        obtain ⟨z0, z1, z2, z3, _⟩ := BR3.out
        go_wp2
        go_quiet (fail)
        have hbd := below_drewN (Below.refl w3.heap.size w3) nq
        have HBd := Lib.hid (HB3.out.trans (hbd.mono HB3.out.size))
        have s7 : (w3.drewN nq).cell? ⟨7, 0, none⟩ = some (sval a 7) := (HS.out.below HBd.out) 7 (by simp)
        unfold sval at s7
        have HQ : Hid (∃ x, Ending.returned (.iface 361 (.pointer (some (a 7)))) = .returned x ∧ ES a x (fileS (prevR fs i) r ls) ∧ Below w.heap.size w (w3.drewN nq)) := Lib.hid ⟨_, rfl, by rw [HF.out]; exact ES.sent a 7 (by decide), HBd.out⟩
        clear hbd z0 z1 z2 z3
        go_wp2
        go_ret
        exact HQ.out
      · have hlb : Op.bytesLess (bs r.name).toList (bs p.name).toList = false := by
          rw [bs_listS, bs_listS, ← before_lessB, Bool.eq_false_iff]
          intro h
          have := bytesBefore_trans hbf h
          rw [bytesBefore_irr] at this; cases this
        have HF := Lib.hid (fileS_3 (prev := prevR fs i) (ls := ls) hc0 (fun q hq => by rw [hpr] at hq; injection hq with hq; rw [← hq]; exact hbf))
        clear hev hc0 hpr hne hbf
        obtain ⟨z0, z1, z2, z3, _⟩ := BR3.out
        go_wp2
        go_quiet (fail)
        clear z0 z1 z2 z3 d1 hlq hlb
        have hbd := below_drewN (Below.refl w3.heap.size w3) nq
        have HBd := Lib.hid (HB3.out.trans (hbd.mono HB3.out.size))
        have BBd := Lib.hid ((hbd.cell (p := ⟨w.heap.size, 0, none⟩) (by show w.heap.size < _; omega)).trans BB3.out)
        have BRd := Lib.hid (BR3.out.below hbd BR3.out.lt)
        have hzd : w.heap.size + 1 < (w3.drewN nq).heap.size := Nat.lt_of_lt_of_le hz3 hbd.size
        clear hbd HB3 BB3 BR3 hz3
        generalize w3.drewN nq = wd at *
        have HRP := Lib.hid (RcRep_any (.agg #[VT r.name, .int .i64 r.len, .int .u32 (r.print : Int), .slice SA r.ids.length sc]) r hrc wd ⟨_, rfl, (HSL.out.keep HBd.out (Nat.le_refl _)).more HBd.out.size⟩)
        obtain ⟨z0, z1, z2, z3, _⟩ := BRd.out
        go_wp2_with fail
        refine HRP.out.mono ?_
        rintro e w5 ⟨rfl, hb5⟩
        have hb6 : Below wd.heap.size wd (w5.alloc (.cells #[.int .u32 ((repOf r.ids).1 : Int), .int .i64 (repOf r.ids).2] 47)) := hb5.alloc hb5.size _
        have hbx := Box2.mk' w5 (.int .u32 ((repOf r.ids).1 : Int)) (.int .i64 (repOf r.ids).2) 47
        have HBX := Lib.hid hbx
        have HB6 := Lib.hid (HBd.out.trans (hb6.mono HBd.out.size))
        have hbb6 := (hb6.cell (p := ⟨w.heap.size, 0, none⟩) (by show w.heap.size < _; omega)).trans BBd.out
        have BB6 := Lib.hid hbb6
        have BR6 := Lib.hid (BRd.out.below hb6 BRd.out.lt)
        have hz5 : w.heap.size + 1 < w5.heap.size := Nat.lt_of_lt_of_le hzd hb5.size
        have HLD6 := Lib.hid ((HLD.out.keep HB6.out (Nat.le_refl _)).more HB6.out.size)
        have HIX := Lib.hid (IxLoad_any (fun b => decide (b.rep = repOf r.ids)) w5.heap.size (.slice BA ls.length bc) ls hll _ HLD6.out (fun x _ A n c w' hb => ScFile1_any x A n c (repOf r.ids) w5.heap.size w' (HBX.out.below hb HBX.out.lt)))
        clear z0 z1 z2 z3 hb5 hb6 hbx HRP HBd BBd BRd hzd
        generalize hrp : repOf r.ids = rp at *
        have hz6 : w5.heap.size < (w5.alloc (.cells #[.int .u32 (rp.1 : Int), .int .i64 rp.2] 47)).heap.size := by simp
        go_wp2_with fail
        generalize w5.alloc (.cells #[.int .u32 (rp.1 : Int), .int .i64 rp.2] 47) = w6 at *
        refine HIX.out.mono ?_
        rintro e w7 ⟨rfl, hb7⟩
        have hb8 : Below w6.heap.size w6 (w7.alloc (.cells #[.int .i64 (ixP (fun b => decide (b.rep = rp)) ls)] 3)) := hb7.alloc hb7.size _
        have HB8 := Lib.hid (HB6.out.trans (hb8.mono HB6.out.size))
        have BB8 := Lib.hid ((hb8.cell (p := ⟨w.heap.size, 0, none⟩) (by show w.heap.size < _; omega)).trans BB6.out)
        have BR8 := Lib.hid (BR6.out.below hb8 BR6.out.lt)
        have HLD8 := Lib.hid ((HLD.out.keep HB8.out (Nat.le_refl _)).more HB8.out.size)
        have HSL8 := Lib.hid ((HSL.out.keep HB8.out (Nat.le_refl _)).more HB8.out.size)
        have hz7 : w6.heap.size ≤ w7.heap.size := hb7.size
        clear hb7 hb8 hbb6 HIX BB6 BR6 HLD6 HB6 HBX
        rcases ixP_find (fun b : Load => decide (b.rep = rp)) ls with ⟨hx1, hx2⟩ | ⟨k, hk, hx1, hx2⟩
        · rw [hx1] at HB8 BB8 BR8 HLD8 HSL8 ⊢
          have HF2 := Lib.hid (HF.out.trans (thereS_none (hrp ▸ hx2)))
          have K8 : Hid ((w7.alloc (.cells #[.int .i64 (-1)] 3)).cell? ⟨w7.heap.size, 0, none⟩ = some (.int .i64 (-1))) := Lib.hid (by rw [World.cell?_alloc_at _ _ _ _ rfl]; rfl)
          have hz8 : w7.heap.size < (w7.alloc (.cells #[.int .i64 (-1)] 3)).heap.size := by simp
          have k8 := K8.out
          have s4 : (w7.alloc (.cells #[.int .i64 (-1)] 3)).cell? ⟨2, 0, none⟩ = some (sval a 4) := (HS.out.below HB8.out) 4 (by simp)
          unfold sval at s4
          clear hx1 hx2
          go_wp2_with fail
          generalize w7.alloc (.cells #[.int .i64 (-1)] 3) = w8 at *
          have HQ : Hid (∃ x, Ending.returned (.iface 361 (.pointer (some (a 4)))) = .returned x ∧ ES a x (fileS (prevR fs i) r ls) ∧ Below w.heap.size w w8) := Lib.hid ⟨_, rfl, by rw [HF2.out]; exact ES.sent a 4 (by decide), HB8.out⟩
          go_ret
          exact HQ.out
        · rw [hx1] at HB8 BB8 BR8 HLD8 HSL8 ⊢
          have HF2 := Lib.hid (HF.out.trans (thereS_some (hrp ▸ hx2)))
          have K8 : Hid ((w7.alloc (.cells #[.int .i64 (k : Int)] 3)).cell? ⟨w7.heap.size, 0, none⟩ = some (.int .i64 (k : Int))) := Lib.hid (by rw [World.cell?_alloc_at _ _ _ _ rfl]; rfl)
          have hz8 : w7.heap.size < (w7.alloc (.cells #[.int .i64 (k : Int)] 3)).heap.size := by simp
          have hkn : ¬ ((k : Int) < 0) := by omega
          have k8 := K8.out
          obtain ⟨_, _, _, q3, _⟩ := BR8.out
          have HCT : Hid (∀ w8, w8 = w7.alloc (.cells #[.int .i64 (k : Int)] 3) → Calls Tryz.prog 132 #[.slice SA r.ids.length sc, .func (.func 133) #[] #[.pointer (some ⟨w.heap.size, 0, none⟩), .pointer (some ⟨w7.heap.size, 0, none⟩)]] w8 fun e w' => e = .returned (.bool (r.ids.any fun x => lacks x ls[k].l)) ∧ Below w8.heap.size w8 w') := Lib.hid (fun w8 e => by
            rw [← e] at HLD8 HSL8 BB8 K8 hz8
            have hzb : w.heap.size < w8.heap.size := by omega
            exact CtID_any (fun x => lacks x ls[k].l) w.heap.size w7.heap.size (.slice SA r.ids.length sc) r.ids hrc w8 HSL8.out (fun x _ w' hbb => ScFile2_any x (.slice BA ls.length bc) ls hlb k hk w.heap.size w7.heap.size w' (HLD8.out.below hbb) ((hbb.cell (p := ⟨w.heap.size, 0, none⟩) hzb).trans BB8.out) ((hbb.cell (p := ⟨w7.heap.size, 0, none⟩) hz8).trans K8.out)))
          clear hx1 hx2
          go_wp2_with fail
          have hct := HCT.out _ rfl
          generalize w7.alloc (.cells #[.int .i64 (k : Int)] 3) = w8 at *
          refine hct.mono ?_
          rintro e w9 ⟨rfl, hbw9⟩
          have HB9 := Lib.hid (HB8.out.trans (hbw9.mono HB8.out.size))
          have s4 : w9.cell? ⟨2, 0, none⟩ = some (sval a 4) := (HS.out.below HB9.out) 4 (by simp)
          unfold sval at s4
          clear hbw9 hct HCT q3 k8
          cases hany : r.ids.any (fun x => lacks x ls[k].l) with
          | true =>
            have HQ : Hid (∃ x, Ending.returned (.iface 361 (.pointer (some (a 4)))) = .returned x ∧ ES a x (fileS (prevR fs i) r ls) ∧ Below w.heap.size w w9) := Lib.hid ⟨_, rfl, by rw [HF2.out]; simp only [hany, if_true]; exact ES.sent a 4 (by decide), HB9.out⟩
            clear hany
            go_wp2
            go_ret
            exact HQ.out
          | false =>
            have HQ : Hid (∃ x, Ending.returned .nilIface = .returned x ∧ ES a x (fileS (prevR fs i) r ls) ∧ Below w.heap.size w w9) := Lib.hid ⟨_, rfl, by rw [HF2.out]; simp only [hany]; exact ES.none a, HB9.out⟩
            clear hany
            go_wp2
            go_ret
            exact HQ.out
  · have HEV := Lib.hid hev
    obtain ⟨ty, pv, rfl⟩ := hev.some hc0
    have HF := Lib.hid (fileS_1 (prev := prevR fs i) (ls := ls) hc0)
    clear hev hc0
    go_wp2_with fail
    refine (RcBare_any a _ _ _ w3 HEV.out).mono ?_
    rintro e w4 ⟨x4, rfl, hes, hb4⟩
    have HQ : Hid (∃ x, Ending.returned x4 = .returned x ∧ ES a x (fileS (prevR fs i) r ls) ∧ Below w.heap.size w w4) := Lib.hid ⟨_, rfl, by rw [HF.out]; exact hes, HB3.out.trans (hb4.mono HB3.out.size)⟩
    clear hes hb4
    go_wp2
    go_ret
    exact HQ.out
theorem ScFile_any (a : Nat → Addr) (vf vb : Value) (fs : List Rcp) (ls : List Load) (hfl : fs.length ≤ 1000000) (hll : ls.length ≤ 1000000) (hlb : ∀ y ∈ ls, y.l.length ≤ 1000000) (i : Nat) (hi : i < fs.length) (hr : RcpB fs[i]) (w : World) (hf : RsRd w w.heap.size vf fs) (hl : LdRd w w.heap.size vb ls) (hs : SomeS [1, 2, 3, 4, 6, 7, 8] a w) :
    Calls Tryz.prog 78 #[vf, .int .i64 (i : Int), vb] w fun e w' => ∃ x, e = .returned x ∧ ES a x (fileS (prevR fs i) fs[i] ls) ∧ Below w.heap.size w w' := by
  by_cases hi0 : i = 0
  · exact ScFile_first a vf vb fs ls hfl hll hlb i hi hr hi0 w hf hl hs
  · exact ScFile_next a vf vb fs ls hfl hll hlb i hi hr hi0 w hf hl hs
end Go.Proofs.YtpanoplcamdnkaaGreatDoor

/- Walk of the reference's OwnerOf. No conditions but bounds. -/
import Derived.Test.YtpacalklcdlhoaaGreatDoorRefO
import Derived.Test.YtpacalklcdlhoaaGreatDoorRefQ
import Derived.Test.YtpacalklcdlhoaaGreatDoorOwnF
import Derived.Test.YtpacalklcdlhoaaGreatDoorBox2
namespace Go.Proofs.YtpacalklcdlhoaaGreatDoor
open Go.RowKit Go.Lib

/-- the best from place k on, as it is found from the end -/
theorem best_down (f : Int → Nat) (l : List Int) (k : Nat) (hk : k < l.length) (hr : Rising l) (b : Int) (hb : IsBest f (l.drop (k + 1)) b) :
    IsBest f (l.drop k) (if f b ≤ f l[k] then l[k] else b) := by
  have hd : l.drop k = l[k] :: l.drop (k + 1) := List.drop_eq_getElem_cons hk
  have hlt : ∀ m ∈ l.drop (k + 1), l[k] < m := by
    have : ∀ (l : List Int) (k : Nat) (hk : k < l.length), Rising l → ∀ m ∈ l.drop (k + 1), l[k] < m := by
      intro l
      induction l with
      | nil => intro k hk; exact absurd hk (Nat.not_lt_zero _)
      | cons a l ih =>
        intro k hk hr m hm
        cases k with
        | zero => exact hr.1 m (by simpa using hm)
        | succ k => exact ih k (by simpa using hk) hr.2 m (by simpa using hm)
    exact this l k hk hr
  rw [hd]
  split
  · next h =>
    refine ⟨List.mem_cons_self, fun m hm => ?_⟩
    rcases List.mem_cons.1 hm with rfl | hm
    · exact .inr ⟨rfl, Int.le_refl _⟩
    · have := hlt m hm
      rcases hb.2 m hm with h1 | ⟨h1, _⟩
      · rcases Nat.lt_or_ge (f m) (f l[k]) with h2 | h2
        · exact .inl h2
        · exact .inl (by omega)
      · rcases Nat.lt_or_ge (f m) (f l[k]) with h2 | h2
        · exact .inl h2
        · exact .inr ⟨by omega, by omega⟩
  · next h =>
    refine ⟨List.mem_cons_of_mem _ hb.1, fun m hm => ?_⟩
    rcases List.mem_cons.1 hm with rfl | hm
    · exact .inl (by omega)
    · exact hb.2 m hm
theorem best_last (f : Int → Nat) (l : List Int) (h : 0 < l.length) : IsBest f (l.drop (l.length - 1)) (l[l.length - 1]'(by omega)) := by
  have hd : l.drop (l.length - 1) = l[l.length - 1]'(by omega) :: l.drop (l.length - 1 + 1) := List.drop_eq_getElem_cons (by omega)
  have he : l.drop (l.length - 1 + 1) = [] := List.drop_eq_nil_of_le (by omega)
  rw [hd, he]
  exact ⟨by simp, fun m hm => by simp at hm; subst hm; exact .inr ⟨rfl, Int.le_refl _⟩⟩
/-- what holds of the best so far, m places from the end being unseen -/
def Down (f : Int → Nat) (l : List Int) (m : Nat) (b : Int) : Prop := b ∈ l ∧ ((m = l.length ∧ l[l.length - 1]? = some b) ∨ IsBest f (l.drop m) b)
theorem Down.start (f : Int → Nat) (l : List Int) (h : 0 < l.length) : Down f l l.length (l[l.length - 1]'(by omega)) :=
  ⟨List.getElem_mem _, .inl ⟨rfl, List.getElem?_eq_getElem (by omega)⟩⟩
theorem Down.step {f : Int → Nat} {l : List Int} {k : Nat} {b : Int} (h : Down f l (k + 1) b) (hk : k < l.length) (hr : Rising l) : Down f l k (if f b ≤ f l[k] then l[k] else b) := by
  rcases h.2 with ⟨h1, h2⟩ | h1
  · have e : l.length - 1 = k := by omega
    rw [e, List.getElem?_eq_getElem hk] at h2
    injection h2 with h2
    subst h2
    rw [if_pos (Nat.le_refl _)]
    have := best_last f l (by omega)
    simp only [e] at this
    exact ⟨List.getElem_mem hk, .inr this⟩
  · refine ⟨?_, .inr (best_down f l k hk hr b h1)⟩
    split
    · exact List.getElem_mem hk
    · exact h.1
theorem Down.done {f : Int → Nat} {l : List Int} {b : Int} (h : Down f l 0 b) (hne : l ≠ []) (hr : Rising l) : b = bestOf f l := by
  rcases h.2 with ⟨h1, _⟩ | h1
  · exact absurd (List.length_eq_zero_iff.1 h1.symm) hne
  · rw [List.drop_zero] at h1
    exact h1.unique (bestOf_is f l hne hr)
set_option maxRecDepth 100000 in
set_option maxHeartbeats 4000000 in
theorem ROwnerOf_any (v : Value) (l : List Int) (p : Nat) (len : Int) (hp : p < 4294967296) (h0 : -9223372036854775808 ≤ len) (h1 : len ≤ 9223372036854775807) (w : World) (hv : Rd w w.heap.size v (l.map VI')) (hl : l.length ≤ 2 ^ 40) :
    Calls Tryz.prog 12 #[v, .agg #[.int .u32 (p : Int), .int .i64 len]] w fun e w' => e = .returned (.tuple #[.int .i64 (ofRes p len l), .agg #[.int .i64 (ofErr l len).1, .int .i64 (ofErr l len).2]]) ∧ Below w.heap.size w w' := by
  have hb0 : Below w.heap.size w ((w.alloc (.cells #[.int .u32 (p : Int), .int .i64 len] 25)).alloc (.cells #[.int .i64 0, .int .i64 0] 32)) := ((Below.refl _ w).alloc (Nat.le_refl _) _).alloc (by simp) _
  have hid : Box2 w.heap.size (.int .u32 (p : Int)) (.int .i64 len) ((w.alloc (.cells #[.int .u32 (p : Int), .int .i64 len] 25)).alloc (.cells #[.int .i64 0, .int .i64 0] 32)) := (Box2.mk' w _ _ _).alloc _
  have hrs : Box2 (w.heap.size + 1) (.int .i64 0) (.int .i64 0) ((w.alloc (.cells #[.int .u32 (p : Int), .int .i64 len] 25)).alloc (.cells #[.int .i64 0, .int .i64 0] 32)) := by
    have := Box2.mk' (w.alloc (.cells #[.int .u32 (p : Int), .int .i64 len] 25)) (.int .i64 0) (.int .i64 0) 32
    simpa using this
  have HV := Lib.hid ((hv.below hb0).more hb0.size)
  obtain ⟨A, c, hvv, _, hxx⟩ := hv
  rw [List.length_map] at hvv
  subst hvv
  by_cases hz : (checkErr l).1 = 0
  · have hne := (checkErr_zero l hz).1
    have hnode := (checkErr_zero l hz).2.1
    have hrise := (checkErr_zero l hz).2.2
    have hck : checkErr l = (0, -1) := checkErr_ok l hne hnode hrise
    have HK := Lib.hid hck
    clear hz hck
    by_cases hlen : len < 0
    · have HJ : Hid (ofErr l len = (3, -1)) := Lib.hid (by unfold ofErr; rw [HK.out]; simp [hlen])
      have HR := Lib.hid (ofRes_bad (p := p) (show (ofErr l len).1 ≠ 0 by rw [HJ.out]; decide))
      clear hne hnode hrise
      go_enter Tryz.func12, Tryz.ntmps12
      go_wp2_with fail
      generalize (w.alloc (.cells #[.int .u32 (p : Int), .int .i64 len] 25)).alloc (.cells #[.int .i64 0, .int .i64 0] 32) = w0 at *
      refine (RNodesFault_any _ l w0 HV.out hl).mono ?_
      rintro e w1 ⟨rfl, hb1⟩
      rw [HK.out]
      have hfb := Box2.mk' w1 (.int .i64 0) (.int .i64 (-1)) 32
      have hid2 := (hid.below hb1 hid.lt).alloc (.cells #[.int .i64 0, .int .i64 (-1)] 32)
      have hrs2 := (hrs.below hb1 hrs.lt).alloc (.cells #[.int .i64 0, .int .i64 (-1)] 32)
      have hb2 := (hb0.trans (hb1.mono hb0.size)).alloc (Nat.le_trans hb0.size hb1.size) (.cells #[.int .i64 0, .int .i64 (-1)] 32)
      obtain ⟨e0, e1, _, _⟩ := hfb
      obtain ⟨_, i1, _, _⟩ := hid2
      have HRS := Lib.hid hrs2
      clear hid hrs hrs2
      go_wp2_with fail
      generalize w1.alloc (.cells #[.int .i64 0, .int .i64 (-1)] 32) = w2 at *
      refine (RBare_any 3 _).mono ?_
      rintro e w3 ⟨rfl, hb3⟩
      have hrs3 := HRS.out.below hb3 HRS.out.lt
      have hb4 := hb2.trans (hb3.mono hb2.size)
      obtain ⟨t0, t1, t2⟩ := hrs3.rd (.int .i64 3) (.int .i64 (-1))
      have hb7 := below_set2 hb4 (b := w.heap.size + 1) (Nat.le_succ _) (.int .i64 3) (.int .i64 (-1))
      obtain ⟨d0, d1, f0, f1⟩ := hrs3
      clear hb2 hb3 hb4
      go_wp2
      refine bodyPost_ret (v := .tuple #[.int .i64 0, .agg #[.int .i64 3, .int .i64 (-1)]]) (by simp [results, Tryz.results12, go_sem, t0, t1, t2]) rfl ?_
      exact ⟨by rw [HR.out, HJ.out], hb7⟩
    · have HJ : Hid (ofErr l len = (0, -1)) := Lib.hid (by unfold ofErr; rw [HK.out]; simp [hlen])
      have HR := Lib.hid (ofRes_ok (p := p) (show (ofErr l len).1 = 0 by rw [HJ.out]))
      have HN := Lib.hid hnode
      have HRI := Lib.hid hrise
      have HNE := Lib.hid hne
      have hpos : 0 < l.length := List.length_pos_iff.2 hne
      have hcl : ∃ g o, A = some ⟨g, o, none⟩ ∧ g < w.heap.size ∧ ∀ k (hk : k < l.length), w.cell? ⟨g, o + k, none⟩ = some (.int .i64 l[k]) := by
        obtain ⟨g, o, h1, h2, h3⟩ := hxx (by simpa using hne)
        exact ⟨g, o, h1, h2, fun k hk => h3 k _ (by simp [hk])⟩
      obtain ⟨g, o, rfl, hg, hcl⟩ := hcl
      have HCL := Lib.hid hcl
      clear hne hnode hrise hcl hxx
      go_enter Tryz.func12, Tryz.ntmps12
      go_wp2_with fail
      generalize (w.alloc (.cells #[.int .u32 (p : Int), .int .i64 len] 25)).alloc (.cells #[.int .i64 0, .int .i64 0] 32) = w0 at *
      refine (RNodesFault_any _ l w0 HV.out hl).mono ?_
      rintro e w1 ⟨rfl, hb1⟩
      rw [HK.out]
      have hfb := Box2.mk' w1 (.int .i64 0) (.int .i64 (-1)) 32
      have hid2 := (hid.below hb1 hid.lt).alloc (.cells #[.int .i64 0, .int .i64 (-1)] 32)
      have hrs2 := (hrs.below hb1 hrs.lt).alloc (.cells #[.int .i64 0, .int .i64 (-1)] 32)
      have hb2 := (hb0.trans (hb1.mono hb0.size)).alloc (Nat.le_trans hb0.size hb1.size) (.cells #[.int .i64 0, .int .i64 (-1)] 32)
      obtain ⟨e0, e1, _, _⟩ := hfb
      have hz1 : w1.heap.size < (w1.alloc (.cells #[.int .i64 0, .int .i64 (-1)] 32)).heap.size := by simp
      have i1 := hid2.c1
      have HID := Lib.hid hid2
      have HRS := Lib.hid hrs2
      have HFB := Lib.hid (Box2.mk' w1 (.int .i64 0) (.int .i64 (-1)) 32)
      have l1 := (hb2.cell (p := ⟨g, o + (l.length - 1), none⟩) hg).trans (HCL.out (l.length - 1) (by omega))
      have b3 : (0 : Int) ≤ (l.length : Int) - 1 := by omega
      have b4 : ((l.length : Int) - 1).toNat = l.length - 1 := by omega
      have HB2 := Lib.hid hb2
      clear hid hrs hrs2 hid2 hb0 hb1 hb2
      go_wp2
      generalize w1.alloc (.cells #[.int .i64 0, .int .i64 (-1)] 32) = w2 at *
      have hcw : ∀ w', Below w2.heap.size w2 w' → ∀ k (hk : k < l.length), w'.cell? ⟨g, o + k, none⟩ = some (.int .i64 l[k]) := fun w' hb k hk =>
        ((HB2.out.trans (hb.mono HB2.out.size)).cell (p := ⟨g, o + k, none⟩) hg).trans (HCL.out k hk)
      have HCWA := Lib.hid hcw
      have hii : ∀ w', Below w2.heap.size w2 w' → w'.cell? ⟨w.heap.size, 0, none⟩ = some (.int .u32 (p : Int)) ∧ w'.cell? ⟨w.heap.size, 1, none⟩ = some (.int .i64 len) := fun w' hb =>
        ⟨(HID.out.below hb HID.out.lt).c0, (HID.out.below hb HID.out.lt).c1⟩
      have HII := Lib.hid hii
      have HD0 := Lib.hid (Down.start (scoreOf p len) l hpos)
      clear hcw hii e0 e1 i1 l1
      go_loopg [7, 8] l.length (fun gh vb vi wr => ∃ (m : Nat) (b : Int), vb = .int .i64 b ∧ vi = .int .i64 ((m : Int) - 1) ∧ m ≤ l.length ∧ gh = m ∧ Hid (Down (scoreOf p len) l m b) ∧ Below w2.heap.size w2 wr)
      case atStart => exact ⟨l.length, _, rfl, rfl, Nat.le_refl _, rfl, HD0, Below.refl _ _⟩
      case round =>
        obtain ⟨m, b, rfl, rfl, hm, hgm, hdn, hb⟩ := hrel
        cases m with
        | zero =>
          have hbb := hdn.out.done HNE.out HRI.out
          have HBB := Lib.hid hbb
          have b1 : ¬ (0 : Int) ≤ ((0 : Nat) : Int) - 1 := by omega
          have hrs3 := HRS.out.below hb HRS.out.lt
          have hfb3 := HFB.out.below hb HFB.out.lt
          have hb9 := HB2.out.trans (hb.mono HB2.out.size)
          obtain ⟨t0, t1, t2⟩ := hrs3.rd (.int .i64 0) (.int .i64 (-1))
          have hb7 := (below_set2 hb9 (b := w.heap.size + 1) (Nat.le_succ _) (.int .i64 0) (.int .i64 (-1))).drew
          obtain ⟨d0, d1, f0, f1⟩ := hrs3
          obtain ⟨e0, e1, _, _⟩ := hfb3
          clear hbb hdn hb9
          go_wp2
          go_region
          go_wp2
          refine bodyPost_ret (v := .tuple #[.int .i64 b, .agg #[.int .i64 0, .int .i64 (-1)]]) (by simp [results, Tryz.results12, go_sem, t0, t1, t2]) rfl ?_
          exact ⟨by rw [HR.out, HJ.out, HBB.out], hb7⟩
        | succ k =>
          have hk : k < l.length := by omega
          have hn1 := HN.out _ (List.getElem_mem hk)
          have hn2 := HN.out _ hdn.out.1
          obtain ⟨x1, x2⟩ := hn1
          obtain ⟨y1, y2⟩ := hn2
          have hst := hdn.out.step hk HRI.out
          have HCW := Lib.hid (fun w' hb => HCWA.out w' hb k hk)
          have b1 : (((k + 1 : Nat) : Int) - 1) = (k : Int) := by omega
          rw [b1]
          have b2 : (0 : Int) ≤ (k : Int) := by omega
          have b3 : (k : Int) < (l.length : Int) := by omega
          generalize l[k] = n at *
          by_cases hgt : scoreOf p len b ≤ scoreOf p len n
          · rw [if_pos hgt] at hst
            have HDN := Lib.hid hst
            have hgi : (scoreOf p len b : Int) ≤ (scoreOf p len n : Int) := by omega
            clear hst hgt hdn b1
            go_wp2
            refine region_S (fun w' => Below w2.heap.size w2 w') 9 (by kernel_rfl) (by kernel_rfl) ?_
            have hB0 : Below w2.heap.size w2 wr.drew := hb.drew
            refine take_S 0 rfl (by kernel_rfl) rfl hB0 (fun w' hS => by go_simp; rfl) ?_
            refine take_S 1 rfl (by kernel_rfl) rfl hB0 (fun w' hS => by go_simp; rfl) ?_
            refine take_S 2 rfl (by kernel_rfl) rfl hB0 (fun w' hS => by go_simp; rfl) ?_
            refine take_S 3 rfl (by kernel_rfl) rfl hB0 (fun w' hS => by have hx := HCW.out w' hS; go_simp; rfl) ?_
            refine take_S 4 rfl (by kernel_rfl) rfl hB0 (fun w' hS => by obtain ⟨h1, h2⟩ := HII.out w' hS; go_simp; rfl) ?_
            refine take_S 6 rfl (by kernel_rfl) rfl hB0 (fun w' hS => by go_simp; rfl) ?_
            refine take_S 7 rfl (by kernel_rfl) rfl hB0 (fun w' hS => by obtain ⟨h1, h2⟩ := HII.out w' hS; go_simp; rfl) ?_
            refine carry_S 5 rfl (by kernel_rfl) (by decide) rfl (fun K hK => ?_)
            go_simp
            refine (RScoreOf_any p len n hp h0 h1 (by omega) (by omega) _).mono ?_
            rintro e w3 ⟨rfl, hb3⟩
            have hB2 : Below w2.heap.size w2 w3 := hB0.trans (hb3.mono hB0.size)
            refine hK _ _ hB2 ?_
            clear hK K
            try simp only [Act.put, List.setIfInBounds_toArray, List.set_cons_zero, List.set_cons_succ]
            refine carry_S 8 rfl (by kernel_rfl) (by decide) (by kernel_rfl) (fun K hK => ?_)
            go_simp
            refine (RScoreOf_any p len b hp h0 h1 (by omega) (by omega) _).mono ?_
            rintro e w4 ⟨rfl, hb4⟩
            have hB3 : Below w2.heap.size w2 w4 := hB2.trans (hb4.mono hB2.size)
            refine hK _ _ hB3 (forced_S (by kernel_rfl) ?_)
            clear hK K
            try simp only [Act.put, List.setIfInBounds_toArray, List.set_cons_zero, List.set_cons_succ]
            simp only [List.drop_succ_cons, List.drop_zero]
            generalize scoreOf p len n = fn at *
            generalize scoreOf p len b = fb at *
            have hx4 := HCW.out w4 hB3
            go_wp2
            go_roundg k
            case measure => omega
            case rel => exact ⟨k, n, rfl, by go_num, by omega, rfl, HDN, hB3⟩
          · rw [if_neg hgt] at hst
            have HDN := Lib.hid hst
            have hgi : ¬ (scoreOf p len b : Int) ≤ (scoreOf p len n : Int) := by omega
            clear hst hgt hdn b1
            go_wp2
            refine region_S (fun w' => Below w2.heap.size w2 w') 9 (by kernel_rfl) (by kernel_rfl) ?_
            have hB0 : Below w2.heap.size w2 wr.drew := hb.drew
            refine take_S 0 rfl (by kernel_rfl) rfl hB0 (fun w' hS => by go_simp; rfl) ?_
            refine take_S 1 rfl (by kernel_rfl) rfl hB0 (fun w' hS => by go_simp; rfl) ?_
            refine take_S 2 rfl (by kernel_rfl) rfl hB0 (fun w' hS => by go_simp; rfl) ?_
            refine take_S 3 rfl (by kernel_rfl) rfl hB0 (fun w' hS => by have hx := HCW.out w' hS; go_simp; rfl) ?_
            refine take_S 4 rfl (by kernel_rfl) rfl hB0 (fun w' hS => by obtain ⟨h1, h2⟩ := HII.out w' hS; go_simp; rfl) ?_
            refine take_S 6 rfl (by kernel_rfl) rfl hB0 (fun w' hS => by go_simp; rfl) ?_
            refine take_S 7 rfl (by kernel_rfl) rfl hB0 (fun w' hS => by obtain ⟨h1, h2⟩ := HII.out w' hS; go_simp; rfl) ?_
            refine carry_S 5 rfl (by kernel_rfl) (by decide) rfl (fun K hK => ?_)
            go_simp
            refine (RScoreOf_any p len n hp h0 h1 (by omega) (by omega) _).mono ?_
            rintro e w3 ⟨rfl, hb3⟩
            have hB2 : Below w2.heap.size w2 w3 := hB0.trans (hb3.mono hB0.size)
            refine hK _ _ hB2 ?_
            clear hK K
            try simp only [Act.put, List.setIfInBounds_toArray, List.set_cons_zero, List.set_cons_succ]
            refine carry_S 8 rfl (by kernel_rfl) (by decide) (by kernel_rfl) (fun K hK => ?_)
            go_simp
            refine (RScoreOf_any p len b hp h0 h1 (by omega) (by omega) _).mono ?_
            rintro e w4 ⟨rfl, hb4⟩
            have hB3 : Below w2.heap.size w2 w4 := hB2.trans (hb4.mono hB2.size)
            refine hK _ _ hB3 (forced_S (by kernel_rfl) ?_)
            clear hK K
            try simp only [Act.put, List.setIfInBounds_toArray, List.set_cons_zero, List.set_cons_succ]
            simp only [List.drop_succ_cons, List.drop_zero]
            generalize scoreOf p len n = fn at *
            generalize scoreOf p len b = fb at *
            have hx4 := HCW.out w4 hB3
            go_wp2
            go_roundg k
            case measure => omega
            case rel => exact ⟨k, b, rfl, by go_num, by omega, rfl, HDN, hB3⟩
  · have HJ : Hid (ofErr l len = checkErr l) := Lib.hid (by unfold ofErr; rw [if_pos hz])
    have hpos : 0 < (checkErr l).1 := checkErr_pos l hz
    have HR := Lib.hid (ofRes_bad (p := p) (show (ofErr l len).1 ≠ 0 by rw [HJ.out]; exact hz))
    clear hz
    go_enter Tryz.func12, Tryz.ntmps12
    go_wp2_with fail
    generalize (w.alloc (.cells #[.int .u32 (p : Int), .int .i64 len] 25)).alloc (.cells #[.int .i64 0, .int .i64 0] 32) = w0 at *
    refine (RNodesFault_any _ l w0 HV.out hl).mono ?_
    rintro e w1 ⟨rfl, hb1⟩
    generalize checkErr l = r at *
    obtain ⟨r1, r2⟩ := r
    have hfb := Box2.mk' w1 (.int .i64 r1) (.int .i64 r2) 32
    have hrs2 := (hrs.below hb1 hrs.lt).alloc (.cells #[.int .i64 r1, .int .i64 r2] 32)
    have hb2 := (hb0.trans (hb1.mono hb0.size)).alloc (Nat.le_trans hb0.size hb1.size) (.cells #[.int .i64 r1, .int .i64 r2] 32)
    obtain ⟨t0, t1, t2⟩ := hrs2.rd (.int .i64 r1) (.int .i64 r2)
    have hb7 := (below_set2 hb2 (b := w.heap.size + 1) (Nat.le_succ _) (.int .i64 r1) (.int .i64 r2)).drew
    obtain ⟨d0, d1, f0, f1⟩ := hrs2
    obtain ⟨e0, e1, _, _⟩ := hfb
    go_wp2
    generalize w1.alloc (.cells #[.int .i64 r1, .int .i64 r2] 32) = w2 at *
    go_region
    go_wp2
    refine bodyPost_ret (v := .tuple #[.int .i64 0, .agg #[.int .i64 r1, .int .i64 r2]]) (by simp [results, Tryz.results12, go_sem, t0, t1, t2]) rfl ?_
    exact ⟨by rw [HR.out, HJ.out], hb7⟩
end Go.Proofs.YtpacalklcdlhoaaGreatDoor

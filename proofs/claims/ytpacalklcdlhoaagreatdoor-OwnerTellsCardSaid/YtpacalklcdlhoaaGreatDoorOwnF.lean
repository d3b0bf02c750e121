/- Walk of owner.Of. Condition: the sentinels that are read, and the library's tables, lie as named (SomeS, Tabs). -/
import Derived.Test.YtpacalklcdlhoaaGreatDoorOwnC
import Derived.Test.YtpacalklcdlhoaaGreatDoorPrT
namespace Go.Proofs.YtpacalklcdlhoaaGreatDoor
open Go.RowKit Go.Lib

theorem bestStep_mem (f : Int → Nat) (b n : Int) : bestStep f b n = b ∨ bestStep f b n = n := by unfold bestStep; split <;> simp
theorem foldl_best_mem (f : Int → Nat) : ∀ (xs : List Int) (b : Int), xs.foldl (bestStep f) b = b ∨ xs.foldl (bestStep f) b ∈ xs
  | [], b => .inl rfl
  | n :: xs, b => by
    rw [List.foldl_cons]
    rcases foldl_best_mem f xs (bestStep f b n) with h | h
    · rw [h]
      rcases bestStep_mem f b n with h1 | h1 <;> rw [h1] <;> simp
    · exact .inr (List.mem_cons_of_mem _ h)
/-- the best of the first k -/
def bestTo (f : Int → Nat) (l : List Int) (k : Nat) : Int := (l.take k).foldl (bestStep f) (l.headD 0)
theorem bestTo_mem (f : Int → Nat) (l : List Int) (k : Nat) (hne : l ≠ []) : bestTo f l k ∈ l := by
  unfold bestTo
  cases l with
  | nil => exact absurd rfl hne
  | cons a l =>
    rcases foldl_best_mem f ((a :: l).take k) a with h | h
    · rw [List.headD_cons, h]; simp
    · exact List.mem_of_mem_take h
theorem bestTo_succ (f : Int → Nat) (l : List Int) (k : Nat) (h : k < l.length) : bestTo f l (k + 1) = bestStep f (bestTo f l k) l[k] := by
  unfold bestTo
  rw [List.take_succ_eq_append_getElem h, List.foldl_append]; rfl
theorem bestTo_all (f : Int → Nat) (l : List Int) : bestTo f l l.length = bestOf f l := by unfold bestTo bestOf; rw [List.take_of_length_le (Nat.le_refl _)]
def ofErr (l : List Int) (len : Int) : Int × Int := if (checkErr l).1 ≠ 0 then checkErr l else if len < 0 then (3, -1) else (0, -1)
def ofRes (p : Nat) (len : Int) (l : List Int) : Int := if (ofErr l len).1 = 0 then bestOf (scoreOf p len) l else 0
theorem ofRes_ok {p : Nat} {len : Int} {l : List Int} (h : (ofErr l len).1 = 0) : ofRes p len l = bestOf (scoreOf p len) l := by unfold ofRes; rw [if_pos h]
theorem ofRes_bad {p : Nat} {len : Int} {l : List Int} (h : (ofErr l len).1 ≠ 0) : ofRes p len l = 0 := by unfold ofRes; rw [if_neg h]
set_option maxRecDepth 100000 in
set_option maxHeartbeats 1000000 in
theorem Of_any (a : Nat → Addr) (v : Value) (l : List Int) (p : Nat) (len : Int) (hp : p < 4294967296) (h0 : -9223372036854775808 ≤ len) (h1 : len ≤ 9223372036854775807) (B : Nat) (w : World) (hv : Rd w B v (l.map VI')) (hl : l.length ≤ 2 ^ 40) (hB : B ≤ w.heap.size) (hs : SomeS [1, 2, 4, 7] a w) (ht : Tabs w) :
    Calls Tryz.prog 11 #[v, .agg #[.int .u32 (p : Int), .int .i64 len]] w fun e w' => ∃ r, e = .returned (.tuple #[.int .i64 (ofRes p len l), r]) ∧ EV a r (ofErr l len).1 (ofErr l len).2 w' ∧ Below w.heap.size w w' := by
  have hb0 : Below w.heap.size w (w.alloc (.cells #[.int .u32 (p : Int), .int .i64 len] 25)) := (Below.refl _ w).alloc (Nat.le_refl _) _
  have hc0 : (w.alloc (.cells #[.int .u32 (p : Int), .int .i64 len] 25)).cell? ⟨w.heap.size, 0, none⟩ = some (.int .u32 (p : Int)) := by rw [World.cell?_alloc_at _ _ _ _ rfl]; rfl
  have hc1 : (w.alloc (.cells #[.int .u32 (p : Int), .int .i64 len] 25)).cell? ⟨w.heap.size, 1, none⟩ = some (.int .i64 len) := by rw [World.cell?_alloc_at _ _ _ _ rfl]; rfl
  have hz0 : w.heap.size < (w.alloc (.cells #[.int .u32 (p : Int), .int .i64 len] 25)).heap.size := by simp
  have HV := Lib.hid (hv.below (hb0.mono hB))
  have HS := Lib.hid (hs.below hb0)
  have HT := Lib.hid (ht.below hb0)
  have HE0 := Lib.hid (oCheck_any a v l B _ (hv.below (hb0.mono hB)) (by omega) (fun k hk => hs.below hb0 k (by simp at hk ⊢; omega)))
  clear hs ht
  by_cases hz : (checkErr l).1 = 0
  · have hne := (checkErr_zero l hz).1
    have hok := (checkErr_zero l hz).2.1
    have H0 := Lib.hid hz
    clear hz
    by_cases hlen : len < 0
    · have HJ : Hid (ofErr l len = (3, -1)) := Lib.hid (by unfold ofErr; rw [if_neg (by rw [H0.out]; simp), if_pos hlen])
      clear hok hne
      go_enter Tryz.func11, Tryz.ntmps11
      go_wp2_with fail
      generalize w.alloc (.cells #[.int .u32 (p : Int), .int .i64 len] 25) = w0 at *
      refine HE0.out.mono ?_
      rintro e w1 ⟨r, rfl, hr, hb⟩
      obtain ⟨rfl, _⟩ := hr.nil H0.out
      have c1 := (hb.cell (p := ⟨w.heap.size, 1, none⟩) hz0).trans hc1
      have s2 : w1.cell? ⟨1, 0, none⟩ = some (sval a 2) := (HS.out.below hb) 2 (by simp)
      unfold sval at s2
      have hb1 := hb0.trans (hb.mono hb0.size)
      clear hr hb0 hc0 hc1 hb
      go_wp2
      go_quiet (fail)
      go_wp2
      go_ret2
      exact ⟨_, by rw [ofRes_bad (by rw [HJ.out]; decide)]; rfl, by rw [HJ.out]; exact EV.sent a _ 2 (by decide), below_drewN hb1 _⟩
    · have HJ : Hid (ofErr l len = (0, -1)) := Lib.hid (by unfold ofErr; rw [if_neg (by rw [H0.out]; simp), if_neg hlen])
      obtain ⟨f, hf⟩ : ∃ f, f = scoreOf p len := ⟨_, rfl⟩
      obtain ⟨A, c, rfl, hlc, hx⟩ := hv
      obtain ⟨g, o, rfl, hg, hc⟩ := hx (by simpa using hne)
      have hlp : 0 < l.length := List.length_pos_iff.2 hne
      have hgw : g < w.heap.size := by omega
      have hcell : ∀ w', Below w.heap.size w w' → ∀ k (hk : k < l.length), w'.cell? ⟨g, o + k, none⟩ = some (.int .i64 l[k]) := fun w' hb k hk => (hb.cell (p := ⟨g, o + k, none⟩) hgw).trans (hc k _ (by simp [hk]))
      have HC := Lib.hid hcell
      have hhd : l.headD 0 = l[0] := by cases l with
        | nil => exact absurd rfl hne
        | cons a l => rfl
      have HH := Lib.hid hhd
      have HOK := Lib.hid hok
      have HF := Lib.hid hf
      clear hx hc hcell hhd hok
      rw [List.length_map] at *
      go_enter Tryz.func11, Tryz.ntmps11
      go_wp2_with fail
      generalize w.alloc (.cells #[.int .u32 (p : Int), .int .i64 len] 25) = w0 at *
      refine HE0.out.mono ?_
      rintro e w1 ⟨r, rfl, hr, hb⟩
      obtain ⟨rfl, _⟩ := hr.nil H0.out
      have hbw1 := hb0.trans (hb.mono hb0.size)
      have hcc : ∀ w', Below w1.heap.size w1 w' → w'.cell? ⟨w.heap.size, 0, none⟩ = some (.int .u32 (p : Int)) ∧ w'.cell? ⟨w.heap.size, 1, none⟩ = some (.int .i64 len) := fun w' hb' => by
        have h2 : w.heap.size < w1.heap.size := Nat.lt_of_lt_of_le hz0 hb.size
        exact ⟨(hb'.cell (p := ⟨w.heap.size, 0, none⟩) h2).trans ((hb.cell (p := ⟨w.heap.size, 0, none⟩) hz0).trans hc0), (hb'.cell (p := ⟨w.heap.size, 1, none⟩) h2).trans ((hb.cell (p := ⟨w.heap.size, 1, none⟩) hz0).trans hc1)⟩
      have HCC := Lib.hid hcc
      have HT1 := Lib.hid (HT.out.below hb)
      have c1 := (hcc w1 (Below.refl _ _)).2
      have d0 := HC.out w1 hbw1 0 hlp
      rw [Nat.add_zero] at d0
      have hbs : w.heap.size ≤ w1.heap.size := hbw1.size
      have HB1 := Lib.hid hbw1
      clear hr hb0 hc0 hc1 hb hcc hbw1
      go_wp2
      go_loopg [7, 24] l.length (fun gh vb vi wr => ∃ k : Nat, vi = .int .i64 k ∧ k ≤ l.length ∧ gh = l.length - k ∧ vb = .int .i64 (bestTo f l k) ∧ Below w1.heap.size w1 wr)
      case atStart => exact ⟨0, rfl, Nat.zero_le _, rfl, by rw [← HH.out]; rfl, Below.refl _ _⟩
      case round =>
        obtain ⟨k, rfl, hk, rfl, rfl, hb⟩ := hrel
        by_cases hlt : k < l.length
        · have d1 := HC.out wr (HB1.out.trans (hb.mono hbs)) k hlt
          have b1 : (k : Int) < (l.length : Int) := by omega
          have b2 : (0 : Int) ≤ (k : Int) := by omega
          have HSC := Lib.hid (bestTo_succ f l k hlt)
          have hm1 := HOK.out _ (List.getElem_mem hlt)
          have hm2 := HOK.out _ (bestTo_mem f l k hne)
          obtain ⟨x1, x2⟩ := hm1
          obtain ⟨y1, y2⟩ := hm2
          generalize bestTo f l k = bk at *
          generalize l[k] = n at *
          subst hf
          by_cases hgt : scoreOf p len bk < scoreOf p len n
          · have HQ : Hid (bestStep (scoreOf p len) bk n = n) := Lib.hid (by unfold bestStep; rw [if_pos hgt])
            have hgi : (scoreOf p len bk : Int) < (scoreOf p len n : Int) := by omega
            clear hgt
            go_wp2
            refine region_S (fun w' => Below w1.heap.size w1 w') 6 (by kernel_rfl) (by kernel_rfl) ?_
            have hB0 : Below w1.heap.size w1 wr.drew := hb.drew
            refine take_S 0 rfl (by kernel_rfl) rfl hB0 (fun w' hS => by go_simp; rfl) ?_
            refine take_S 1 rfl (by kernel_rfl) rfl hB0 (fun w' hS => by obtain ⟨h1, h2⟩ := HCC.out w' hS; go_simp; rfl) ?_
            refine take_S 3 rfl (by kernel_rfl) rfl hB0 (fun w' hS => by go_simp; rfl) ?_
            refine take_S 4 rfl (by kernel_rfl) rfl hB0 (fun w' hS => by obtain ⟨h1, h2⟩ := HCC.out w' hS; go_simp; rfl) ?_
            refine carry_S 2 rfl (by kernel_rfl) (by decide) rfl (fun K hK => ?_)
            go_simp
            refine (Score_any p len n hp h0 h1 (by omega) (by omega) _ (HT1.out.below hB0)).mono ?_
            rintro e w2 ⟨rfl, hb2⟩
            have hB2 : Below w1.heap.size w1 w2 := hB0.trans (hb2.mono hB0.size)
            refine hK _ _ hB2 ?_
            clear hK K
            try simp only [Act.put, List.setIfInBounds_toArray, List.set_cons_zero, List.set_cons_succ]
            refine carry_S 5 rfl (by kernel_rfl) (by decide) (by kernel_rfl) (fun K hK => ?_)
            go_simp
            refine (Score_any p len bk hp h0 h1 (by omega) (by omega) _ (HT1.out.below hB2)).mono ?_
            rintro e w3 ⟨rfl, hb3⟩
            have hB3 : Below w1.heap.size w1 w3 := hB2.trans (hb3.mono hB2.size)
            refine hK _ _ hB3 (forced_S (by kernel_rfl) ?_)
            clear hK K
            try simp only [Act.put, List.setIfInBounds_toArray, List.set_cons_zero, List.set_cons_succ]
            simp only [List.drop_succ_cons, List.drop_zero]
            generalize scoreOf p len n = fn at *
            generalize scoreOf p len bk = fb at *
            go_wp2
            go_roundg (l.length - (k + 1))
            case measure => omega
            case rel => exact ⟨k + 1, by go_num, hlt, rfl, by rw [HSC.out, HQ.out], hB3⟩
          · have HQ : Hid (bestStep (scoreOf p len) bk n = bk) := Lib.hid (by unfold bestStep; rw [if_neg hgt])
            have hgi : ¬ (scoreOf p len bk : Int) < (scoreOf p len n : Int) := by omega
            clear hgt
            go_wp2
            refine region_S (fun w' => Below w1.heap.size w1 w') 6 (by kernel_rfl) (by kernel_rfl) ?_
            have hB0 : Below w1.heap.size w1 wr.drew := hb.drew
            refine take_S 0 rfl (by kernel_rfl) rfl hB0 (fun w' hS => by go_simp; rfl) ?_
            refine take_S 1 rfl (by kernel_rfl) rfl hB0 (fun w' hS => by obtain ⟨h1, h2⟩ := HCC.out w' hS; go_simp; rfl) ?_
            refine take_S 3 rfl (by kernel_rfl) rfl hB0 (fun w' hS => by go_simp; rfl) ?_
            refine take_S 4 rfl (by kernel_rfl) rfl hB0 (fun w' hS => by obtain ⟨h1, h2⟩ := HCC.out w' hS; go_simp; rfl) ?_
            refine carry_S 2 rfl (by kernel_rfl) (by decide) rfl (fun K hK => ?_)
            go_simp
            refine (Score_any p len n hp h0 h1 (by omega) (by omega) _ (HT1.out.below hB0)).mono ?_
            rintro e w2 ⟨rfl, hb2⟩
            have hB2 : Below w1.heap.size w1 w2 := hB0.trans (hb2.mono hB0.size)
            refine hK _ _ hB2 ?_
            clear hK K
            try simp only [Act.put, List.setIfInBounds_toArray, List.set_cons_zero, List.set_cons_succ]
            refine carry_S 5 rfl (by kernel_rfl) (by decide) (by kernel_rfl) (fun K hK => ?_)
            go_simp
            refine (Score_any p len bk hp h0 h1 (by omega) (by omega) _ (HT1.out.below hB2)).mono ?_
            rintro e w3 ⟨rfl, hb3⟩
            have hB3 : Below w1.heap.size w1 w3 := hB2.trans (hb3.mono hB2.size)
            refine hK _ _ hB3 (forced_S (by kernel_rfl) ?_)
            clear hK K
            try simp only [Act.put, List.setIfInBounds_toArray, List.set_cons_zero, List.set_cons_succ]
            simp only [List.drop_succ_cons, List.drop_zero]
            generalize scoreOf p len n = fn at *
            generalize scoreOf p len bk = fb at *
            go_wp2
            go_roundg (l.length - (k + 1))
            case measure => omega
            case rel => exact ⟨k + 1, by go_num, hlt, rfl, by rw [HSC.out, HQ.out], hB3⟩
        · obtain rfl : k = l.length := by omega
          have hall := bestTo_all f l
          rw [hall]
          clear hall
          have HR : Hid (ofRes p len l = bestOf f l) := Lib.hid (by rw [ofRes_ok (by rw [HJ.out]), HF.out])
          have hb9 := HB1.out.trans (hb.mono hbs)
          go_wp2
          go_ret2
          exact ⟨_, by rw [HR.out]; rfl, by rw [HJ.out]; exact EV.none _ _, hb9⟩
  · have HJ : Hid (ofErr l len = checkErr l) := Lib.hid (by unfold ofErr; rw [if_pos hz])
    have H0 := Lib.hid hz
    clear hz
    go_enter Tryz.func11, Tryz.ntmps11
    go_wp2_with fail
    refine HE0.out.mono ?_
    rintro e w1 ⟨r, rfl, hr, hb⟩
    obtain ⟨T, p, rfl⟩ := hr.some H0.out
    have HR := Lib.hid hr
    have hb1 := hb0.trans (hb.mono hb0.size)
    clear hr
    go_wp2
    go_ret2
    exact ⟨_, by rw [ofRes_bad (by rw [HJ.out]; exact H0.out)]; rfl, by rw [HJ.out]; exact HR.out, hb1⟩
end Go.Proofs.YtpacalklcdlhoaaGreatDoor

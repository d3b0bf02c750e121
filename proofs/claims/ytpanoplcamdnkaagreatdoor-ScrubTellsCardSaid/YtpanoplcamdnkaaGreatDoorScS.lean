/- Walk of the law's scrubbed. Condition: the sentinels lie as named. -/
import Derived.Test.YtpanoplcamdnkaaGreatDoorScr3
import Derived.Test.YtpanoplcamdnkaaGreatDoorNod2
import Derived.Test.YtpanoplcamdnkaaGreatDoorErrV
namespace Go.Proofs.YtpanoplcamdnkaaGreatDoor
open Go.RowKit Go.Lib Go.Maps Go.WideMaps

theorem check_one : checkS [rcpOf [97] hlo] [] = (5, 0) := by
  have h1 : rcpFault (rcpOf [97] hlo) = (0, -1) := rcpFault_of (by decide) (by decide)
  have h2 : fileS none (rcpOf [97] hlo) [] = 5 := by
    rw [fileS_3 (by rw [h1]) (fun p hp => by cases hp), thereS_none rfl]
  unfold checkS
  rw [if_neg (by decide)]
  have h3 : filesL [] none 0 [rcpOf [97] hlo] = (5, 0) := by
    unfold filesL
    rw [h2, if_pos (by decide)]; rfl
  rw [h3, if_pos (by decide)]
theorem recN_hl1 : recN [97] nd1 = (0, rcpOf [97] hlo) := by
  unfold recN nd1
  rw [alGet_cons, if_pos rfl]
theorem RsRd.one {w : World} {B g : Nat} {r : Rcp} {sl : Value} (hg : g < B) (hr : RdI w B sl r.ids) (c0 : w.cell? ⟨g, 0, none⟩ = some (VT r.name)) (c1 : w.cell? ⟨g, 1, none⟩ = some (.int .i64 r.len)) (c2 : w.cell? ⟨g, 2, none⟩ = some (.int .u32 (r.print : Int))) (c3 : w.cell? ⟨g, 3, none⟩ = some sl) :
    RsRd w B (.slice (some ⟨g, 0, none⟩) 1 1) [r] := by
  refine ⟨_, 1, rfl, Nat.le_refl _, fun _ => ⟨g, 0, rfl, hg, fun k hk => ?_⟩⟩
  have : k = 0 := by simp at hk; omega
  subst this
  exact ⟨sl, hr, by simpa using c0, by simpa using c1, by simpa using c2, by simpa using c3⟩
set_option maxRecDepth 100000 in
set_option maxHeartbeats 4000000 in
theorem scrubbed_any (a : Nat → Addr) (w : World) (hs : Sents a w) :
    Calls Tryz.prog 31 #[] w fun e w' => e = .returned (.bool true) ∧ Below w.heap.size w w' := by
  have HS := Lib.hid hs
  have ok1 : NodeOk nd1 := by have := NodeOk.nil.put [97] hlo; rw [putN_hl1] at this; exact this
  have hsk : ∀ w', Below w.heap.size w w' → ∀ ks, (∀ k ∈ ks, k < 12) → SomeS ks a w' := fun w' hb ks hk => (hs.below hb).someS ks hk
  have HP1 := Lib.hid (fun n f w' (h : NIn w.heap.size n ⟨[], []⟩ f w w') => Node.putC a NodeOk.nil [97] hlo (by unfold StrOk maxLen; decide) w' h.node (hsk w' h.bel [1, 3, 5, 6, 9] (by decide)))
  have HR1 := Lib.hid (fun n f w' (h : NIn w.heap.size n nd1 f w w') => Node.recipeC a ok1 [97] (by unfold StrOk maxLen; decide) w' h.node (hsk w' h.bel [4] (by decide)))
  have HO1 := Lib.hid (fun n f w' (h : NIn w.heap.size n nd1 f w w') => ScOf_any a ok1 w' h.node (hsk w' h.bel [1, 2, 3, 4, 6, 7, 8, 10] (by decide)))
  have HSK := Lib.hid hsk
  rw [putN_hl1] at HP1
  rw [recN_hl1] at HR1
  clear hs ok1 hsk
  go_enter Tryz.func31, Tryz.ntmps31
  go_wp2_with fail
  refine (NdNew_any w).mono ?_
  rintro e w1 ⟨n, f, rfl, hn, hge, hb1⟩
  have H1 := Lib.hid (NIn.new hn hge hb1 hb1.size)
  clear hn hge hb1
  go_wp2_with fail
  refine (HP1.out n f w1 H1.out).mono ?_
  rintro e w2 ⟨r2, rfl, hev2, ht2⟩
  obtain ⟨rfl, _⟩ := hev2.nil rfl
  obtain ⟨f2, h2⟩ := H1.out.to ht2
  have H2 := Lib.hid h2
  clear hev2 ht2 h2
  go_wp2_with fail
  refine (HR1.out n f2 w2 H2.out).mono ?_
  rintro e w3 ⟨v3, r3, rfl, hev3, ⟨sl3, rfl, hr3⟩, hb3⟩
  obtain ⟨rfl, _⟩ := hev3.nil rfl
  obtain ⟨A3, c3, hsl3⟩ : ∃ A c, sl3 = .slice A (rcpOf [97] hlo).ids.length c := by obtain ⟨A, c, h, _⟩ := hr3; exact ⟨A, c, h⟩
  subst hsl3
  have hr := hr3.rd
  have hrb : RcpB (rcpOf [97] hlo) := rcpB_of (by decide) (by decide)
  have HCO := Lib.hid check_one
  have hb3a : Below w3.heap.size w3 (w3.alloc (.cells #[VT (rcpOf [97] hlo).name, .int .i64 (rcpOf [97] hlo).len, .int .u32 ((rcpOf [97] hlo).print : Int), .slice A3 (rcpOf [97] hlo).ids.length c3] 65)) := (Below.refl _ _).alloc (Nat.le_refl _) _
  have H4 := Lib.hid ((H2.out.below hb3).below hb3a)
  have HR4 := Lib.hid ((hr.keep hb3a (Nat.le_refl _)).more hb3a.size)
  have BX4 := Lib.hid (Box4.mk' w3 (VT (rcpOf [97] hlo).name) (.int .i64 (rcpOf [97] hlo).len) (.int .u32 ((rcpOf [97] hlo).print : Int)) (.slice A3 (rcpOf [97] hlo).ids.length c3) 65)
  have HRB := Lib.hid hrb
  clear hev3 hr3 hb3 hr hrb hb3a
  generalize rcpOf [97] hlo = r at *
  go_wp2_with fail
  generalize w3.alloc (.cells #[VT r.name, .int .i64 r.len, .int .u32 (r.print : Int), .slice A3 r.ids.length c3] 65) = w4 at *
  refine (HO1.out n f2 w4 H4.out).mono ?_
  rintro e w5 ⟨rfl, hb5⟩
  have H5 := Lib.hid (H4.out.below hb5)
  have HR5 := Lib.hid ((HR4.out.keep hb5 (Nat.le_refl _)).more hb5.size)
  have BX5 := Lib.hid (BX4.out.below hb5 BX4.out.lt)
  obtain ⟨z0, z1, z2, z3, _⟩ := BX5.out
  have hb6 : Below w5.heap.size w5 (w5.alloc (.cells #[VT r.name, .int .i64 r.len, .int .u32 (r.print : Int), .slice A3 r.ids.length c3] 65)) := (Below.refl _ _).alloc (Nat.le_refl _) _
  have H6 := Lib.hid (H5.out.below hb6)
  have hz6 : w5.heap.size < (w5.alloc (.cells #[VT r.name, .int .i64 r.len, .int .u32 (r.print : Int), .slice A3 r.ids.length c3] 65)).heap.size := by simp
  obtain ⟨y0, y1, y2, y3, _⟩ := Box4.mk' w5 (VT r.name) (.int .i64 r.len) (.int .u32 (r.print : Int)) (.slice A3 r.ids.length c3) 65
  have HCK := Lib.hid (ScCheck_any a (.slice (some ⟨w5.heap.size, 0, none⟩) 1 1) (.slice none 0 0) [r] [] (by simp) (fun q hq => by rw [List.mem_singleton.1 hq]; exact HRB.out) (by simp) (fun _ h => absurd h List.not_mem_nil) (fun _ h => absurd h List.not_mem_nil) (w5.alloc (.cells #[VT r.name, .int .i64 r.len, .int .u32 (r.print : Int), .slice A3 r.ids.length c3] 65)) (RsRd.one hz6 ((HR5.out.keep hb6 (Nat.le_refl _)).more hb6.size) y0 y1 y2 y3) (LdRd.nil _ _) (HSK.out _ H6.out.bel [1, 2, 3, 4, 6, 7, 8, 10] (by decide)))
  rw [HCO.out] at HCK
  unfold ScPost at HCK
  clear hb5 hb6 y0 y1 y2 y3
  go_wp2_with fail
  generalize w5.alloc (.cells #[VT r.name, .int .i64 r.len, .int .u32 (r.print : Int), .slice A3 r.ids.length c3] 65) = w6 at *
  refine HCK.out.mono ?_
  rintro e w7 ⟨x, rfl, hev, hb7⟩
  have H7 := Lib.hid (H6.out.below hb7)
  have HF := Lib.hid (faulted2_any a x 5 0 5 0 w7 (HS.out.below H7.out.bel) (hev.toErrV (HS.out.below H7.out.bel)))
  clear hev hb7 HCK
  go_wp2_with fail
  refine HF.out.mono ?_
  rintro e w8 ⟨rfl, hb8⟩
  have H8 := Lib.hid (H7.out.below hb8)
  have hfb : faultedB 5 0 5 0 = true := by decide
  rw [hfb]
  clear hb8 hfb
  go_wp2
  go_ret
  exact ⟨rfl, H8.out.bel⟩
end Go.Proofs.YtpanoplcamdnkaaGreatDoor

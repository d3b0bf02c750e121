/- Walk of taped: a closed fact on tapes. Condition: the tables and the sentinels that are read lie as named. -/
import Derived.Test.YtpacalklcdlhoaaDoorTapG
import Derived.Test.YtpacalklcdlhoaaDoorTapF
namespace Go.Proofs.YtpacalklcdlhoaaDoor
open Go.RowKit Go.Lib

def ab : ByteArray := ⟨#[97, 32, 98]⟩
theorem ab_list : ab.data.toList = [97, 32, 98] := rfl
theorem ab_all : readAll (recOf [97, 32, 98]) = [[97, 32, 98]] := by
  have := readAll_snoc (D := []) (fun x h => by cases h) [97, 32, 98] (by decide)
  simpa [recsOf] using this
theorem ab_recs : recsOf [[97, 32, 98]] = [51, 58, 97, 32, 98, 10, 46] := by decide +kernel
theorem ab_rec : recOf [97, 32, 98] = [51, 58, 97, 32, 98, 10, 46] := by decide +kernel
set_option maxRecDepth 100000 in
set_option maxHeartbeats 1000000 in
theorem taped_any (a : Nat → Addr) (w : World) (hT : TapW w) (hS : SomeS [1, 6, 11] a w) :
    Calls Tryd.prog 16 #[] w fun e w' => e = .returned (.bool true) ∧ Below w.heap.size w w' := by
  have HT := Lib.hid hT
  have HS := Lib.hid hS
  clear hT hS
  go_enter Tryd.func16, Tryd.ntmps16
  go_wp2_with fail
  refine (NewDisk_ok ⟨#[]⟩ (by decide) w).mono ?_
  rintro e w1 ⟨d, g, rfl, hdk, hd, hg, hb1⟩
  have HI1 : Hid (DIn a w d g ⟨[], false, -1⟩ w1) := Lib.hid ⟨HT.out, HS.out, hb1, hd, hg, hdk⟩
  clear hdk hd hg hb1
  go_wp2_with fail
  refine (TAppend_any a w d g ⟨[], false, -1⟩ ⟨#[97, 32, 98]⟩ w1 HI1.out (by decide) (by decide) (by decide) (by decide)).mono ?_
  rintro e w2 ⟨r, rfl, hr, hp⟩
  have hno : apNo ⟨[], false, -1⟩ [97, 32, 98] = 0 := apNo_on [] _ (by decide) (by rw [ab_rec]; decide)
  have hr' : r = .nilIface := by rw [hr]; exact if_pos hno
  subst hr'
  have hst : apSt ⟨[], false, -1⟩ [97, 32, 98] = ⟨recOf [97, 32, 98], false, -1⟩ := apSt_on [] _ (by decide) (by rw [ab_rec]; decide)
  have hp' : DPost d g ⟨recOf [97, 32, 98], false, -1⟩ w1 w2 := hst ▸ hp
  obtain ⟨g2, hin2, _, _⟩ := HI1.out.post hp'
  have HI2 := Lib.hid hin2
  clear hin2 hp hp' hr hno hst
  go_wp2_with fail
  refine (TRecover_any a w d g2 _ w2 HI2.out (by rw [ab_rec]; decide)).mono ?_
  rintro e w3 ⟨v, rfl, hrow, _, hp3⟩
  obtain ⟨g3, hin3, _, ht3⟩ := HI2.out.post hp3
  have hrow' : w3.ownsRow w2.heap.size 9 1 v 1 [VT [97, 32, 98]] := by
    have h := hrow
    simp only [ab_all] at h
    exact h
  have HI3 := Lib.hid hin3
  have HR3 := Lib.hid hrow'
  clear hin3 hrow hrow' hp3 ht3
  go_wp2_with fail
  have hb4 : Below w3.heap.size w3 (w3.alloc (.cells #[.string ⟨#[97, 32, 98]⟩] 9)) := (Below.refl _ _).alloc (Nat.le_refl _) _
  have hd4 : DiskIs d g3 [51, 58, 97, 32, 98, 10, 46] false (-1) (w3.alloc (.cells #[.string ⟨#[97, 32, 98]⟩] 9)) := by
    have h := HI3.out.is
    unfold DSt.is rcSt at h
    simp only [ab_all, ab_recs] at h
    exact h.below hb4
  have hb5 : Below w.heap.size w (w3.alloc (.cells #[.string ⟨#[97, 32, 98]⟩] 9)) := HI3.out.b.trans (hb4.mono HI3.out.b.size)
  have hlit : Rd (w3.alloc (.cells #[.string ⟨#[97, 32, 98]⟩] 9)) (w3.heap.size + 1) (.slice (some ⟨w3.heap.size, 0, none⟩) 1 1) ([[97, 32, 98]].map VT) := ⟨_, _, rfl, Nat.le_refl _, fun _ => ⟨w3.heap.size, 0, rfl, Nat.lt_succ_self _, fun k u hu => by
    have := cell_one_new w3 (.string ⟨#[97, 32, 98]⟩) 9 k u hu
    rwa [add_eq'] at this⟩⟩
  have hrd : Rd (w3.alloc (.cells #[.string ⟨#[97, 32, 98]⟩] 9)) (w3.heap.size + 1) v ([[97, 32, 98]].map VT) := ((Rd.own HR3.out).below hb4).more (Nat.le_succ _)
  generalize w3.alloc (.cells #[.string ⟨#[97, 32, 98]⟩] 9) = w4 at *
  refine (SameTexts_any v _ _ _ _ w4 hrd hlit (by decide) (by decide)).mono ?_
  rintro e w5 ⟨rfl, q, rfl⟩
  have HD5 : Hid (DiskIs d g3 [51, 58, 97, 32, 98, 10, 46] false (-1) (w4.drewN q)) := Lib.hid (hd4.below (below_drewN (Below.refl _ _) _))
  have HB5 := Lib.hid (below_drewN hb5 q)
  have hdt : decide (([[97, 32, 98]] : List Bytes) = [[97, 32, 98]]) = true := by decide
  rw [hdt]
  clear hdt hd4 hb5 hlit hrd hb4
  have hbl : ((bs [51, 58, 97, 32, 98, 10, 46]).toList == [51, 58, 97, 32, 98, 10, 46]) = true := by rw [bs_list]; rfl
  generalize hB : bs [51, 58, 97, 32, 98, 10, 46] = B at *
  go_wp2_with fail
  refine (TBytes_any d g3 _ false (-1) _ HD5.out).mono ?_
  rintro e w6 ⟨rfl, rfl⟩
  rw [hB]
  go_wp2
  go_ret
  exact ⟨rfl, HB5.out⟩
end Go.Proofs.YtpacalklcdlhoaaDoor

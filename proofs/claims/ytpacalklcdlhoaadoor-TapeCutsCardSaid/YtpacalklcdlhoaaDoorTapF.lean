/- Walk of tape.Append. Condition: DIn. -/
import Derived.Test.YtpacalklcdlhoaaDoorTapE
import Derived.Test.YtpacalklcdlhoaaDoorHeldN
namespace Go.Proofs.YtpacalklcdlhoaaDoor
open Go.RowKit Go.Lib

def errOf (a : Nat → Addr) (k : Nat) : Value := if k = 0 then .nilIface else sval a k
def ApPost (a : Nat → Addr) (d g : Nat) (s : DSt) (x : Bytes) (w : World) (e : Ending) (w' : World) : Prop :=
  ∃ r, e = .returned r ∧ r = errOf a (apNo s x) ∧ DPost d g (apSt s x) w w'
set_option maxRecDepth 100000 in
set_option maxHeartbeats 1000000 in
theorem TAppend_any (a : Nat → Addr) (W : World) (d g : Nat) (s : DSt) (x : ByteArray) (w : World) (hin : DIn a W d g s w) (hx : x.size ≤ 2 ^ 30) (hb : s.b.length ≤ 2 ^ 30) (hcut : s.cut ≤ 9223372036854775807) (hcut0 : -9223372036854775808 ≤ s.cut) :
    Calls Tryd.prog 19 #[.pointer (some ⟨d, 0, none⟩), .string x] w (ApPost a d g s x.data.toList w) := by
  have s1 : w.cell? ⟨2, 0, none⟩ = some (sval a 1) := hin.sen 1 (by simp)
  have s6 : w.cell? ⟨5, 0, none⟩ = some (sval a 6) := hin.sen 6 (by simp)
  have HIN := Lib.hid hin
  have hxl := size_toList x
  clear hin
  by_cases h1 : 40000 < x.size
  · have h1i : (40000 : Int) < (x.size : Int) := by omega
    have HP : Hid (ApPost a d g s x.data.toList w (.returned (sval a 1)) w) := Lib.hid ⟨_, rfl, by unfold apNo; rw [if_pos (by omega)]; rfl, g, by unfold apSt; rw [if_pos (by omega)]; exact HIN.out.is, .inl rfl, Two.refl _ _ _⟩
    unfold sval at s1 HP
    clear hxl
    go_enter Tryd.func19, Tryd.ntmps19
    go_wp2
    go_ret
    exact HP.out
  · have h1i : ¬ (40000 : Int) < (x.size : Int) := by omega
    obtain ⟨b, off, cut⟩ := s
    obtain ⟨v, h⟩ := HIN.out.is
    obtain ⟨cp, rfl⟩ := h.buf.form
    simp only at h hb hcut hcut0
    have H := Lib.hid h
    have hx40 : x.size ≤ 2 ^ 40 := by omega
    obtain ⟨R, hR⟩ : ∃ R, R = bs (recOf x.data.toList) := ⟨_, rfl⟩
    have REC : Hid (∀ w', Below w.heap.size w w' → Calls Tryd.prog 56 #[.string x] w' fun e w2 => e = .returned (.string R) ∧ Below w.heap.size w' w2) := Lib.hid fun w' hb => (record_any x hx40 w' (HIN.out.tap.below hb)).mono fun e w2 ⟨h1, h2⟩ => ⟨by rw [h1, hR], h2.mono hb.size⟩
    have h1n : ¬ 40000 < x.data.toList.length := by omega
    have HRS : Hid (R.size = (recOf x.data.toList).length) := Lib.hid (by rw [hR, bs_size])
    have HRL : Hid (R.data.toList = recOf x.data.toList) := Lib.hid (by rw [hR, bs_toList])
    have hR40 : R.size ≤ 40012 := by
      have := recOf_length x.data.toList (by omega)
      rw [HRS.out]; omega
    clear hR
    have HNO := Lib.hid h1n
    clear h hxl h1n
    go_enter Tryd.func19, Tryd.ntmps19
    go_wp2
    have hwr : IntKind.i64.wrap ((1048576 : Int) - (b.length : Int)) = (1048576 : Int) - (b.length : Int) := IntWalk.i64_in _ (by omega)
    have hS0 : Below w.heap.size w w.drew := (Below.refl _ _).drew
    refine region_S (fun w' => Below w.heap.size w w') 10 (by kernel_rfl) (by kernel_rfl) ?_
    refine take_S 0 rfl (by kernel_rfl) (by kernel_rfl) hS0 (fun w' hS => by go_simp; rfl) ?_
    try simp only [Act.put, List.getElem_toArray, List.getElem_cons_succ, List.getElem_cons_zero, List.setIfInBounds_toArray, List.set_cons_zero, List.set_cons_succ]
    refine take_S 3 rfl (by kernel_rfl) (by kernel_rfl) hS0 (fun w' hS => by go_simp; rfl) ?_
    try simp only [Act.put, List.getElem_toArray, List.getElem_cons_succ, List.getElem_cons_zero, List.setIfInBounds_toArray, List.set_cons_zero, List.set_cons_succ]
    refine take_S 4 rfl (by kernel_rfl) (by kernel_rfl) hS0 (fun w' hS => by go_simp; rfl) ?_
    try simp only [Act.put, List.getElem_toArray, List.getElem_cons_succ, List.getElem_cons_zero, List.setIfInBounds_toArray, List.set_cons_zero, List.set_cons_succ]
    refine take_S 5 rfl (by kernel_rfl) (by kernel_rfl) hS0 (fun w' hS => by go_simp; rfl) ?_
    try simp only [Act.put, List.getElem_toArray, List.getElem_cons_succ, List.getElem_cons_zero, List.setIfInBounds_toArray, List.set_cons_zero, List.set_cons_succ]
    refine take_S 6 rfl (by kernel_rfl) (by kernel_rfl) hS0 (fun w' hS => by have c0 := (H.out.below hS).cells.1; go_simp; rfl) ?_
    try simp only [Act.put, List.getElem_toArray, List.getElem_cons_succ, List.getElem_cons_zero, List.setIfInBounds_toArray, List.set_cons_zero, List.set_cons_succ]
    refine take_S 7 rfl (by kernel_rfl) (by kernel_rfl) hS0 (fun w' hS => by go_simp; rfl) ?_
    try simp only [Act.put, List.getElem_toArray, List.getElem_cons_succ, List.getElem_cons_zero, List.setIfInBounds_toArray, List.set_cons_zero, List.set_cons_succ]
    refine take_S 8 rfl (by kernel_rfl) (by kernel_rfl) hS0 (fun w' hS => by go_simp; rfl) ?_
    try simp only [Act.put, List.getElem_toArray, List.getElem_cons_succ, List.getElem_cons_zero, List.setIfInBounds_toArray, List.set_cons_zero, List.set_cons_succ]
    refine carry_S 1 rfl (by kernel_rfl) (by decide) (by kernel_rfl) (fun K hK => ?_)
    go_simp
    refine (REC.out _ hS0).mono ?_
    rintro e w1 ⟨rfl, hB1⟩
    have hS1 : Below w.heap.size w w1 := hS0.trans hB1
    refine hK _ _ hS1 ?_
    clear hK K
    try simp only [Act.put, List.getElem_toArray, List.getElem_cons_succ, List.getElem_cons_zero, List.setIfInBounds_toArray, List.set_cons_zero, List.set_cons_succ]
    refine take_S 2 rfl (by kernel_rfl) (by kernel_rfl) hS1 (fun w' hS => by go_simp; rfl) ?_
    try simp only [Act.put, List.getElem_toArray, List.getElem_cons_succ, List.getElem_cons_zero, List.setIfInBounds_toArray, List.set_cons_zero, List.set_cons_succ]
    by_cases h2 : 1048576 < R.size + b.length
    · have h2i : (1048576 : Int) - (b.length : Int) < (R.size : Int) := by omega
      refine take_S (v := .bool true) 9 rfl (by kernel_rfl) (by kernel_rfl) hS1 (fun w' hS => by go_simp) ?_
      try simp only [Act.put, List.getElem_toArray, List.getElem_cons_succ, List.getElem_cons_zero, List.setIfInBounds_toArray, List.set_cons_zero, List.set_cons_succ]
      refine forced_S (by kernel_rfl) ?_
      simp only [List.drop_succ_cons, List.drop_zero]
      have s6' : w1.cell? ⟨5, 0, none⟩ = some (sval a 6) := (HIN.out.below hS1).sen 6 (by simp)
      have HP : Hid (ApPost a d g ⟨b, off, cut⟩ x.data.toList w (.returned (sval a 6)) w1) := Lib.hid ⟨_, rfl, by unfold apNo; rw [if_neg HNO.out, if_pos (by rw [← HRS.out]; exact h2)]; rfl, g, by unfold apSt; rw [if_neg HNO.out, if_pos (by rw [← HRS.out]; exact h2)]; exact (HIN.out.below hS1).is, .inl rfl, Two.of_below hS1⟩
      unfold sval at s6' HP
      clear s6 s1
      go_wp2
      go_ret
      exact HP.out
    · have h2i : ¬ (1048576 : Int) - (b.length : Int) < (R.size : Int) := by omega
      refine take_S (v := .bool false) 9 rfl (by kernel_rfl) (by kernel_rfl) hS1 (fun w' hS => by go_simp) ?_
      try simp only [Act.put, List.getElem_toArray, List.getElem_cons_succ, List.getElem_cons_zero, List.setIfInBounds_toArray, List.set_cons_zero, List.set_cons_succ]
      refine forced_S (by kernel_rfl) ?_
      simp only [List.drop_succ_cons, List.drop_zero]
      have HS1 := Lib.hid hS1
      clear s6 s1 hS0 hS1 hB1
      go_wp2_with fail
      refine (REC.out w1 HS1.out).mono ?_
      rintro e w2 ⟨rfl, hB2⟩
      have hI2 := HIN.out.below (HS1.out.trans hB2)
      have HS2 := Lib.hid (HS1.out.trans hB2)
      go_wp2_with fail
      refine (TWrite_any a W d g ⟨b, off, cut⟩ R w2 hI2 (by simp only; omega) hcut hcut0).mono ?_
      rintro e w3 ⟨r, rfl, hr, hp⟩
      have HP : Hid (ApPost a d g ⟨b, off, cut⟩ x.data.toList w (.returned r) w3) := Lib.hid (by
        rw [HRL.out] at hr hp
        have hn : ¬ 1048576 < (recOf x.data.toList).length + b.length := by rw [← HRS.out]; exact h2
        refine ⟨r, rfl, ?_, ?_⟩
        · rw [hr]; unfold apNo errOf; rw [if_neg HNO.out, if_neg hn]
          cases wrOk ⟨b, off, cut⟩ (recOf x.data.toList) <;> rfl
        · unfold apSt; rw [if_neg HNO.out, if_neg hn]
          obtain ⟨g', p1, p2, p3⟩ := hp
          exact ⟨g', p1, p2.imp id (fun h => Nat.le_trans HS2.out.size h), (Two.of_below HS2.out).trans p3 (.inl rfl)⟩)
      clear hr hp hI2
      go_wp2
      go_ret
      exact HP.out
end Go.Proofs.YtpacalklcdlhoaaDoor

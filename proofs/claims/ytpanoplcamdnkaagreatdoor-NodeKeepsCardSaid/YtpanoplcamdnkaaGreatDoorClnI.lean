/- Walk of slices.Clone at IDs. No conditions but bounds. -/
import Derived.Test.YtpanoplcamdnkaaGreatDoorIds
import Derived.Test.YtpanoplcamdnkaaGreatDoorAppM
namespace Go.Proofs.YtpanoplcamdnkaaGreatDoor
open Go.RowKit Go.Lib

theorem Tr.nilI (n c : Nat) (w : World) : (binOp BinOp.eql 44 (.slice none n c) (.slice none 0 0)).run Tryz.prog w = .ok (.bool true) w := by kernel_rfl
theorem Tr.someI (a : Addr) (n c : Nat) (w : World) : (binOp BinOp.eql 44 (.slice (some a) n c) (.slice none 0 0)).run Tryz.prog w = .ok (.bool false) w := by kernel_rfl
theorem own_none (w : World) (e : TypeId) (size : Nat) : (w.alloc (.cells #[] e)).ownsRow w.heap.size e size (.slice (some ⟨w.heap.size, 0, none⟩) 0 0) 0 [] :=
  ⟨by simp, .inr ⟨w.heap.size, 0, #[], rfl, Nat.le_refl _, heap_alloc_new w _, Nat.le_refl _, Nat.zero_le _, by simp, by simp⟩⟩
set_option maxRecDepth 100000 in
set_option maxHeartbeats 1000000 in
theorem ClnI_any (v : Value) (L : IdL) (hL : L.length ≤ 1000000) (w : World) (hv : RdI w w.heap.size v L) :
    Calls Tryz.prog 92 #[v] w fun e w' => ∃ v', e = .returned v' ∧ RdB w' w.heap.size w'.heap.size v' L ∧ Below w.heap.size w w' := by
  obtain ⟨i0, hi, hz0, hz1, hz2⟩ := info_parts info_idI
  have hb0 : Below w.heap.size w (w.alloc (.cells #[] 47)) := (Below.refl _ w).alloc (Nat.le_refl _) _
  have HV := Lib.hid (hv.below hb0)
  obtain ⟨A, c, hvA⟩ : ∃ A c, v = .slice A L.length c := by obtain ⟨A, c, h, _⟩ := hv; exact ⟨A, c, h⟩
  have q1 := Tr.nilI
  have q2 := Tr.someI
  cases A with
  | none =>
    have h0 : L = [] := by
      obtain ⟨A, c', he, _, _, hx⟩ := hv
      by_cases hz : 0 < L.length
      · obtain ⟨g, o, hA, _⟩ := hx hz
        rw [hvA] at he
        injection he with e1
        rw [hA] at e1
        cases e1
      · exact List.length_eq_zero_iff.1 (by omega)
    subst h0
    subst hvA
    clear hv HV
    go_enter Tryz.func92, Tryz.ntmps92
    go_wp2
    go_ret
    exact ⟨_, rfl, RdB.nil _ _ _, Below.refl _ _⟩
  | some a =>
    subst hvA
    clear hv
    have HB0 := Lib.hid hb0
    have HO := Lib.hid (own_none w 47 2)
    clear hb0
    go_enter Tryz.func92, Tryz.ntmps92
    go_wp2_with (first | (at_builtin; refine wpList_append_rdM rfl (.tmp 5) (.tmp 6) 44 rfl w.heap.size 47 i0 (.agg #[.int .u32 0, .int .i64 0]) 2 16 Tryz.underlying44 hi hz0 hz1 hz2 rfl (by decide) _ 0 [] rfl HO.out w.heap.size _ L.length (idRow L) rfl HV.out (idRow_one _) (by unfold maxLen; omega) (by omega) HB0.out.size ?_; intro v5 w5 ho5 hg5) | fail)
    have HB5 := Lib.hid (HB0.out.grown hg5 HB0.out.size (fun j hj => by cases hj; exact Nat.le_refl _))
    have HO5 := Lib.hid ho5
    clear ho5 hg5
    go_wp2
    go_ret
    exact ⟨_, rfl, RdB.own (by simpa using HO5.out) rfl, HB5.out⟩
end Go.Proofs.YtpanoplcamdnkaaGreatDoor

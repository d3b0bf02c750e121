/- once.Table: walk of Clients. No conditions but bounds. -/
import Derived.Test.YtpacalklcdlhoaaDoorOnc
import Derived.Test.YtpacalklcdlhoaaDoorIterC
namespace Go.Proofs.YtpacalklcdlhoaaDoor
open Go.RowKit Go.Lib Go.Maps Go.Sort Go.Shelf

theorem strKeys_size (D : DataW Unit) : (strKeys D).length = Maps.size D := by
  cases D <;> simp [strKeys, Maps.size]
set_option maxHeartbeats 1000000 in
theorem OClients_any (b mb cnt : Nat) (D : DataW Unit) (w : World) (hT : OTab b mb D cnt w) (hmax : Maps.size D ≤ 2 ^ 30) :
    Calls Tryd.prog 41 #[.pointer (some ⟨b, 0, none⟩)] w fun e w' => ∃ (v : Value) (ss : List (List UInt8)), e = .returned v ∧ ss.Perm (strKeys D) ∧
      w'.ownsRow w.heap.size 9 1 v ss.length ((ss.mergeSort (fun x y => decide (x ≤ y))).map encStr) ∧ Below w.heap.size w w' := by
  refine (callsIn_wide (n := 6)).1 ?_
  have hfK : Fence.wide.fn 70 := trivial
  have hfS : Fence.wide.fn 69 := trivial
  have c0 := hT.cell
  have hmap := hT.map
  have h1 : Maps.size D ≤ maxLen := by unfold maxLen; omega
  have h2 : Maps.size D * 16 ≤ 140737488355328 := by omega
  clear hT
  refine callsIn_of_wp Tryd.func41 rfl trivial ?_ rfl
  simp only [Tryd.ntmps41, List.size_toArray, List.length_cons, List.length_nil, Nat.reduceAdd, Nat.reduceSub, Array.replicate_succ, Array.replicate_zero, List.push_toArray, List.append_toArray, List.nil_append, List.cons_append]
  gi_wp2_with (first
    | (gi_at_call 70; refine (Tryd.maps_Keys_70 _ _).mono ?_; rintro e w' ⟨rfl, rfl⟩)
    | (gi_at_call 69; refine (Tryd.slices_Sorted_keys_69_70 mb cnt D ansElem w hmap h1 h2).mono ?_; rintro e w' ⟨v, ss, rfl, hS, hrow, hnil, hb⟩))
  go_ret
  exact ⟨v, ss, rfl, hS, ownsRow_base_a hrow (by simp), ((Below.refl _ w).alloc (Nat.le_refl _) _).trans (hb.mono (by simp))⟩
end Go.Proofs.YtpacalklcdlhoaaDoor

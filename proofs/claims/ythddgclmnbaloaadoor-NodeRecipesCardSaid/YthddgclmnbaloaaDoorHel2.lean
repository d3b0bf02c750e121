/- Drawn regions: two operations are ready, each of which writes or calls: both orders. No conditions. -/
import Derived.Test.YthddgclmnbaloaaDoorHeld
namespace Go.Proofs.YthddgclmnbaloaaDoor
open Go.RowKit
section
variable {P : Program} {md : Region.Mode} {ops : Array Oper} {S : World → Prop} {n : Nat} {Q : Exit → Act → World → Prop} {f : Nat} {listed : Array Bool} {a : Act} {w : World}
/-- **operations i and j may come up, no other: each is carried out** -/
theorem carry2_S (i j : Nat) {oi oj : Oper} (hi : ops[i]? = some oi) (hj : ops[j]? = some oj) (hr : Region.ready md ops listed = [i, j]) (hin : i < n) (hjn : j < n) (hwi : Region.wanted oi (yielded ops a.tmps) = true) (hwj : Region.wanted oj (yielded ops a.tmps) = true)
    (h1 : ∀ K : Act → World → Prop, (∀ a' w', S w' → wpS P md ops S n (LS P md ops Q n) f (listed.setIfInBounds i true) a' w' → K a' w') → oi.wp P a w K bot)
    (h2 : ∀ K : Act → World → Prop, (∀ a' w', S w' → wpS P md ops S n (LS P md ops Q n) f (listed.setIfInBounds j true) a' w' → K a' w') → oj.wp P a w K bot) :
    wpS P md ops S n (LS P md ops Q n) (f + 1) listed a w := by
  refine ⟨by rw [hr]; simp, fun k hk => ?_⟩
  rw [hr, List.mem_cons, List.mem_singleton] at hk
  rcases hk with rfl | rfl
  · refine ⟨hin, ?_⟩
    unfold wpOp
    simp only [hi]
    rw [if_pos hwi]
    exact .inl (h1 _ (fun a' w' h1 h2 => ⟨h1, h2⟩))
  · refine ⟨hjn, ?_⟩
    unfold wpOp
    simp only [hj]
    rw [if_pos hwj]
    exact .inl (h2 _ (fun a' w' h1 h2 => ⟨h1, h2⟩))
end
end Go.Proofs.YthddgclmnbaloaaDoor

/- A guarded operation that is not wanted, in a region that draws its order. Conditions: the closed facts that the law asks. -/
import Derived.Test.YtpanoplcamdnkaaGreatDoorHeld
namespace Go.Proofs.YtpanoplcamdnkaaGreatDoor
open Go.RowKit
section
variable {P : Program} {ops : Array Oper} {md : Region.Mode} {S : World → Prop} {n : Nat} {Q : Exit → Act → World → Prop} {f : Nat} {listed : Array Bool} {a : Act} {w : World}
/-- **pass over operation i, which its guard does not want** -/
theorem skip_S (i : Nat) {oi : Oper} (hi : ops[i]? = some oi) (hB : takeB md ops n i listed = true) (hw : Region.wanted oi (yielded ops a.tmps) = false) (hS : S w)
    (h : wpS P md ops S n (LS P md ops Q n) f (listed.setIfInBounds i true) (a.put oi.dst undef) w) :
    wpS P md ops S n (LS P md ops Q n) (f + 1) listed a w := by
  simp only [takeB, Bool.and_eq_true, decide_eq_true_eq] at hB
  obtain ⟨⟨⟨⟨⟨⟨⟨h1, h2⟩, h3⟩, h4⟩, h5⟩, h6⟩, h7⟩, h8⟩ := hB
  exact wpS_first hi (Region.noSelect_spec h2) h5 h6 h3 h4 (fun listed a w hL => seqB_ready hL.1) f listed a w (headB_inv h1) (Region.free_spec hi h7) (by simpa using h8)
    (.inr ⟨hw, rfl⟩) hS h
end
end Go.Proofs.YtpanoplcamdnkaaGreatDoor

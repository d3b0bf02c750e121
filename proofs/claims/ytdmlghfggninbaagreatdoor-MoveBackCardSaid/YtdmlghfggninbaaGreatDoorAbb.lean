/- Short names for laws that stand in many places. No conditions. -/
import Derived.Lib.Hide
set_option linter.unusedVariables false
set_option linter.unusedSimpArgs false
namespace Go.Proofs.YtdmlghfggninbaaGreatDoor
open Go.RowKit
theorem zh{p:Prop}(h:p):Hid p:=h
theorem zl(n:Nat):n≤n:=Nat.le_refl n
theorem zb(B:Nat)(w:World):Below B w w:=Below.refl B w
theorem zM:(∀ {α:Type} {xs:List α} {i:Nat} (h:i<xs.toArray.size),xs.toArray[i]'h=xs[i]'(by simpa using h)) ∧
  (∀ {α:Type} {a:α} {l:List α} {i:Nat} (h:i+1<(a::l).length),(a::l)[i+1]'h=l[i]'(Nat.lt_of_succ_lt_succ h)) ∧
  (∀ {α:Type} {a:α} {l:List α} (h:0<(a::l).length),(a::l)[0]'h=a) ∧
  (∀ {α:Type} {l:List α} {i:Nat} {v:α},l.toArray.setIfInBounds i v=(l.set i v).toArray) ∧
  (∀ {α:Type} {a b:α} {l:List α},(a::l).set 0 b=b::l) ∧
  (∀ {α:Type} {a b:α} {l:List α} {i:Nat},(a::l).set (i+1) b=a::l.set i b):=
 ⟨fun _=>by simp,fun _=>List.getElem_cons_succ ..,fun _=>rfl,by simp,rfl,rfl⟩
end Go.Proofs.YtdmlghfggninbaaGreatDoor

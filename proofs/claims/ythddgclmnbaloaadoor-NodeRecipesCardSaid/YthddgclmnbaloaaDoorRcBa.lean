/- Walk of recipe.Bare. No conditions. -/
import Derived.Test.YthddgclmnbaloaaDoorIds
import Derived.OwnWalk
import Derived.BigQuiet
namespace Go.Proofs.YthddgclmnbaloaaDoor
open Go.RowKit Go.Lib

theorem Tr.noFaultN (xT : TypeId) (w : World) : (Instr.typeAssert .nilIface xT 109 true).run Tryd.prog w = .ok (.tuple #[.pointer none, .bool false]) w := by kernel_rfl
theorem Tr.noFaultE (v : Value) (xT : TypeId) (w : World) : (Instr.typeAssert (.iface 211 v) xT 109 true).run Tryd.prog w = .ok (.tuple #[.pointer none, .bool false]) w := by kernel_rfl
theorem Tr.isFault (v : Value) (xT : TypeId) (w : World) : (Instr.typeAssert (.iface 109 v) xT 109 true).run Tryd.prog w = .ok (.tuple #[v, .bool true]) w := by kernel_rfl
set_option maxRecDepth 100000 in
theorem RcBare_any (a : Nat → Addr) (v : Value) (c t : Int) (w : World) (he : EV a v c t w) :
    Calls Tryd.prog 52 #[v] w fun e w' => ∃ x, e = .returned x ∧ ES a x c ∧ Below w.heap.size w w' := by
  have t1 := Tr.noFaultN
  have t2 := Tr.noFaultE
  have t3 := Tr.isFault
  rcases he with ⟨rfl, rfl, rfl⟩ | ⟨k, hk, rfl, rfl, rfl⟩ | ⟨k, b, o, hk, rfl, rfl, h0, h1⟩
  · go_enter Tryd.func52, Tryd.ntmps52
    go_wp2
    go_ret
    exact ⟨_, rfl, ES.none a, Below.refl _ _⟩
  · unfold sval
    go_enter Tryd.func52, Tryd.ntmps52
    go_wp2
    go_ret
    exact ⟨_, rfl, ES.sent a k hk, Below.refl _ _⟩
  · unfold sval at h1
    go_enter Tryd.func52, Tryd.ntmps52
    go_wp2
    go_ret
    exact ⟨_, rfl, ES.sent a k hk, Below.refl _ _⟩
theorem SomeS.sub {ks js : List Nat} {a : Nat → Addr} {w : World} (h : SomeS ks a w) (hs : ∀ k ∈ js, k ∈ ks) : SomeS js a w := fun k hk => h k (hs k hk)
end Go.Proofs.YthddgclmnbaloaaDoor

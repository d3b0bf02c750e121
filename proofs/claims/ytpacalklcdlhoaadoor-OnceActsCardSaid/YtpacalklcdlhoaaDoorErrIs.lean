/- errors.Is at a sentinel of errors.New and at an *api.Fault, by contracts: its own text is walked. Turned from the guide's worked example on errors.Is. No conditions. -/
import Derived.Test.YtpacalklcdlhoaaDoorChecked
import Derived.WalkKit
import Derived.LaidEql
import Derived.Stop.Asserts
import Derived.RowKitTokens
namespace Go.Proofs.YtpacalklcdlhoaaDoor
open Go.RowKit Go.Extern.Stop Go.Stop Go.Extern

/-! ### CLOSED FACTS: what 'reflectlite.TypeOf(target).Comparable()' gives at such a target -/
theorem Er.isTypeOf (v : Value) (w : World) : (Extern.ReflectliteType.typeOf #[.iface 239 v]).run Tryd.prog w = .ok (.iface 198 (.agg #[.pointer (some ⟨21, 239, none⟩)])) w := by kernel_rfl
theorem Er.isComparable (w : World) : ((Extern.ReflectliteType.method fun t => do Rtype.noPackHeld "Comparable" t; (fun a => Value.bool a.comparable) <$> typeInfo t) #[.agg #[.pointer (some ⟨21, 239, none⟩)]]).run Tryd.prog w = .ok (.bool true) w := by kernel_rfl
theorem Er.isMethodComparable (v : Value) (w : World) : (Go.method 377 198 v "Comparable").run Tryd.prog w = .ok (217, v) w := by kernel_rfl
theorem Er.isComp : (Tryd.prog.info? 239).map (·.comparable) = some true := by kernel_rfl
theorem Er.isSize : (Tryd.prog.info? 241).map (·.size) = some 1 := by kernel_rfl

/-! ### CLOSED FACTS ON THE METHOD SETS: what errors.is's assertions find -/
theorem Er.noIsE (v : Value) (xT : TypeId) (w : World) : (Instr.typeAssert (.iface 239 v) xT 209 true).run Tryd.prog w = .ok (.tuple #[.nilIface, .bool false]) w := run_typeAssert_lacksB Tryd.underlying209 (by kernel_rfl) (by kernel_rfl) v xT w
theorem Er.noUnwrapE (v : Value) (xT : TypeId) (w : World) : (Instr.typeAssert (.iface 239 v) xT 205 true).run Tryd.prog w = .ok (.tuple #[.nilIface, .bool false]) w := run_typeAssert_lacksB Tryd.underlying205 (by kernel_rfl) (by kernel_rfl) v xT w
theorem Er.noUnwrapsE (v : Value) (xT : TypeId) (w : World) : (Instr.typeAssert (.iface 239 v) xT 207 true).run Tryd.prog w = .ok (.tuple #[.nilIface, .bool false]) w := run_typeAssert_lacksB Tryd.underlying207 (by kernel_rfl) (by kernel_rfl) v xT w
theorem Er.noIsW (v : Value) (xT : TypeId) (w : World) : (Instr.typeAssert (.iface 123 v) xT 209 true).run Tryd.prog w = .ok (.tuple #[.nilIface, .bool false]) w := run_typeAssert_lacksB Tryd.underlying209 (by kernel_rfl) (by kernel_rfl) v xT w
theorem Er.hasUnwrapW (v : Value) (xT : TypeId) (w : World) : (Instr.typeAssert (.iface 123 v) xT 205 true).run Tryd.prog w = .ok (.tuple #[.iface 123 v, .bool true]) w := run_typeAssert_hasB Tryd.underlying205 (by kernel_rfl) v xT w
theorem Er.methodUnwrap (v : Value) (w : World) : (Go.method 377 123 v "Unwrap").run Tryd.prog w = .ok (207, v) w := by kernel_rfl

/-- errors.Is(x, x), x a pointer to an errors.errorString. -/
theorem is_same (a : Addr) (w : World) :
    Calls Tryd.prog 87 #[.iface 239 (.pointer (some a)), .iface 239 (.pointer (some a))] w fun e w' => e = .returned (.bool true) ∧ w' = w := by
  obtain ⟨i, hi, hcmp⟩ := Option.map_eq_some_iff.1 Er.isComp
  obtain ⟨j, hj, hjs⟩ := Option.map_eq_some_iff.1 Er.isSize
  have h8 := @run_callFunc_extern Tryd.prog 113 _ Extern.ReflectliteType.typeOf Tryd.func113 (by kernel_rfl) (by kernel_rfl) (by kernel_rfl) (by kernel_rfl)
  have h32 := @run_callFunc_extern Tryd.prog 217 _ (Extern.ReflectliteType.method fun t => do Rtype.noPackHeld "Comparable" t; pure (.bool (← typeInfo t).comparable)) Tryd.func217 (by kernel_rfl) (by kernel_rfl) (by kernel_rfl) (by kernel_rfl)
  have tT := Er.isTypeOf
  have cT := Er.isComparable
  have mR := Er.isMethodComparable
  have heq := run_eql_iface_ptr_same (P := Tryd.prog) w a Tryd.underlying28 Tryd.underlying239 hi hcmp hj
  go_enter Tryd.func87, Tryd.ntmps87
  go_wp2
  refine wp_loop_rounds 1 ?_
  rw [rounds_succ]
  go_wp2
  go_ret
  exact ⟨rfl, rfl⟩

/-- errors.Is(x, y), two different pointers to errors.errorString: neither has Is nor Unwrap: false. -/
theorem is_other (a b : Addr) (ca cb : Array Value) (ta tb : TypeId) (w : World) (hne : a ≠ b) (ha : w.heap[a.block]? = some (.cells ca ta (0, 0))) (hb : w.heap[b.block]? = some (.cells cb tb (0, 0))) :
    Calls Tryd.prog 87 #[.iface 239 (.pointer (some a)), .iface 239 (.pointer (some b))] w fun e w' => e = .returned (.bool false) ∧ w' = w := by
  obtain ⟨i, hi, hcmp⟩ := Option.map_eq_some_iff.1 Er.isComp
  obtain ⟨j, hj, hjs⟩ := Option.map_eq_some_iff.1 Er.isSize
  have h8 := @run_callFunc_extern Tryd.prog 113 _ Extern.ReflectliteType.typeOf Tryd.func113 (by kernel_rfl) (by kernel_rfl) (by kernel_rfl) (by kernel_rfl)
  have h32 := @run_callFunc_extern Tryd.prog 217 _ (Extern.ReflectliteType.method fun t => do Rtype.noPackHeld "Comparable" t; pure (.bool (← typeInfo t).comparable)) Tryd.func217 (by kernel_rfl) (by kernel_rfl) (by kernel_rfl) (by kernel_rfl)
  have tT := Er.isTypeOf
  have cT := Er.isComparable
  have mR := Er.isMethodComparable
  have nE := Er.noIsE
  have uE := Er.noUnwrapE
  have vE := Er.noUnwrapsE
  have nW := Er.noIsW
  have uW := Er.hasUnwrapW
  have mU := Er.methodUnwrap
  have heq := run_eql_iface_ptr_other (P := Tryd.prog) w Tryd.underlying28 Tryd.underlying239 hi hcmp hj (by rw [hjs]; decide) hne ha hb
  go_enter Tryd.func87, Tryd.ntmps87
  go_wp2
  refine wp_loop_rounds 1 ?_
  rw [rounds_succ]
  go_wp2
  go_ret
  exact ⟨rfl, rfl⟩

/-- errors.Is(e, x), e a *api.Fault that wraps x itself: one Unwrap, then equal. -/
theorem is_fault_same (pb po : Nat) (b : Addr) (w : World) (h1 : w.cell? ⟨pb, po + 1, none⟩ = some (.iface 239 (.pointer (some b)))) :
    Calls Tryd.prog 87 #[.iface 123 (.pointer (some ⟨pb, po, none⟩)), .iface 239 (.pointer (some b))] w fun e w' => e = .returned (.bool true) ∧ w' = w := by
  obtain ⟨i, hi, hcmp⟩ := Option.map_eq_some_iff.1 Er.isComp
  obtain ⟨j, hj, hjs⟩ := Option.map_eq_some_iff.1 Er.isSize
  have h8 := @run_callFunc_extern Tryd.prog 113 _ Extern.ReflectliteType.typeOf Tryd.func113 (by kernel_rfl) (by kernel_rfl) (by kernel_rfl) (by kernel_rfl)
  have h32 := @run_callFunc_extern Tryd.prog 217 _ (Extern.ReflectliteType.method fun t => do Rtype.noPackHeld "Comparable" t; pure (.bool (← typeInfo t).comparable)) Tryd.func217 (by kernel_rfl) (by kernel_rfl) (by kernel_rfl) (by kernel_rfl)
  have tT := Er.isTypeOf
  have cT := Er.isComparable
  have mR := Er.isMethodComparable
  have nE := Er.noIsE
  have uE := Er.noUnwrapE
  have vE := Er.noUnwrapsE
  have nW := Er.noIsW
  have uW := Er.hasUnwrapW
  have mU := Er.methodUnwrap
  have heq := run_eql_iface_ptr_same (P := Tryd.prog) w b Tryd.underlying28 Tryd.underlying239 hi hcmp hj
  have hty := run_eql_iface_types (P := Tryd.prog) 123 239 (.pointer (some ⟨pb, po, none⟩)) (.pointer (some b)) Tryd.underlying28 (by decide) w
  go_enter Tryd.func87, Tryd.ntmps87
  go_wp2
  refine wp_loop_rounds 2 ?_
  rw [rounds_succ]
  go_wp2
  rw [rounds_succ]
  go_wp2
  go_ret
  exact ⟨rfl, rfl⟩

/-- errors.Is(e, x), e a *api.Fault that wraps another error of errors.New's make. -/
theorem is_fault_other (pb po : Nat) (b a : Addr) (ca cb : Array Value) (ta tb : TypeId) (w : World) (h1 : w.cell? ⟨pb, po + 1, none⟩ = some (.iface 239 (.pointer (some a)))) (hne : a ≠ b) (ha : w.heap[a.block]? = some (.cells ca ta (0, 0))) (hb : w.heap[b.block]? = some (.cells cb tb (0, 0))) :
    Calls Tryd.prog 87 #[.iface 123 (.pointer (some ⟨pb, po, none⟩)), .iface 239 (.pointer (some b))] w fun e w' => e = .returned (.bool false) ∧ w' = w := by
  obtain ⟨i, hi, hcmp⟩ := Option.map_eq_some_iff.1 Er.isComp
  obtain ⟨j, hj, hjs⟩ := Option.map_eq_some_iff.1 Er.isSize
  have h8 := @run_callFunc_extern Tryd.prog 113 _ Extern.ReflectliteType.typeOf Tryd.func113 (by kernel_rfl) (by kernel_rfl) (by kernel_rfl) (by kernel_rfl)
  have h32 := @run_callFunc_extern Tryd.prog 217 _ (Extern.ReflectliteType.method fun t => do Rtype.noPackHeld "Comparable" t; pure (.bool (← typeInfo t).comparable)) Tryd.func217 (by kernel_rfl) (by kernel_rfl) (by kernel_rfl) (by kernel_rfl)
  have tT := Er.isTypeOf
  have cT := Er.isComparable
  have mR := Er.isMethodComparable
  have nE := Er.noIsE
  have uE := Er.noUnwrapE
  have vE := Er.noUnwrapsE
  have nW := Er.noIsW
  have uW := Er.hasUnwrapW
  have mU := Er.methodUnwrap
  have heq := run_eql_iface_ptr_other (P := Tryd.prog) w Tryd.underlying28 Tryd.underlying239 hi hcmp hj (by rw [hjs]; decide) hne ha hb
  have hty := run_eql_iface_types (P := Tryd.prog) 123 239 (.pointer (some ⟨pb, po, none⟩)) (.pointer (some b)) Tryd.underlying28 (by decide) w
  go_enter Tryd.func87, Tryd.ntmps87
  go_wp2
  refine wp_loop_rounds 2 ?_
  rw [rounds_succ]
  go_wp2
  rw [rounds_succ]
  go_wp2
  go_ret
  exact ⟨rfl, rfl⟩

end Go.Proofs.YtpacalklcdlhoaaDoor

/- ErrAs, ErrAm, ErrIs in one text. Conditions: as each part says. -/
import Derived.Test.YtpanoplcamdnkaaGreatDoorChecked
import Derived.WalkKit
import Derived.LaidEql
import Derived.Stop.Asserts
import Derived.RowKitTokens
/- errors.As at *api.Fault and errors.Is at a sentinel, by contracts: Go's own text is walked; the entries of internal/reflectlite by closed facts. Turned from the guide's worked example on errors.As. Condition: the variable errors.errorType holds the handle of the type error. -/
namespace Go.Proofs.YtpanoplcamdnkaaGreatDoor
open Go.RowKit Go.Extern.Stop Go.Stop Go.Extern

/-! ### CLOSED FACTS ON THE MODEL's ENTRIES FOR internal/reflectlite, at this program's types: 25: *p.E · 27: **p.E · 23: error · 45: reflectlite's rtype · 1: how many package-level variables the dump has -/
theorem Er.valueOf27 (t : Addr) (w : World) : (ReflectliteValue.unpack (.iface 200 (.pointer (some t)))).run Tryz.prog w
    = .ok (.agg #[.pointer (some ⟨21, 200, none⟩), .pointer (some ⟨w.heap.size, 0, none⟩), .int .u64 150]) (w.alloc (.cells #[.pointer (some t)] 200)) := by kernel_rfl
theorem Er.type27 (a : Addr) (w : World) : (ReflectliteValue.methodAny (ReflectliteValue.valueError "reflectlite.Value.Type" 0) (fun t _ _ _ => ReflectliteType.toType t) #[.agg #[.pointer (some ⟨21, 200, none⟩), .pointer (some a), .int .u64 150]]).run Tryz.prog w
    = .ok (.iface 295 (.agg #[.pointer (some ⟨21, 200, none⟩)])) w := by kernel_rfl
theorem Er.methodKind (h : Value) (w : World) : (Go.method 492 295 (.agg #[h]) "Kind").run Tryz.prog w = .ok (307, h) w := by kernel_rfl
theorem Er.kind27 (w : World) : ((ReflectliteType.abiMethod fun t => (fun a : Nat => Value.int IntKind.u8 (a : Int)) <$> Rtype.kind t) #[.pointer (some ⟨21, 200, none⟩)]).run Tryz.prog w = .ok (.int .u8 22) w := by kernel_rfl
theorem Er.kind25 (w : World) : ((ReflectliteType.abiMethod fun t => (fun a : Nat => Value.int IntKind.u8 (a : Int)) <$> Rtype.kind t) #[.pointer (some ⟨21, 134, none⟩)]).run Tryz.prog w = .ok (.int .u8 22) w := by kernel_rfl

/-! ### THE ENTRIES THAT READ OR WRITE MEMORY: laws with a premise on the cell (after Derived/Lib/ReflectliteSlice.lean's manner: each unfolding a lemma of its own, by rfl) -/
theorem rlm (z : Sem Value) (f : TypeId → Addr → Nat → Nat → Sem Value) (v : Value) :
    ReflectliteValue.method z f #[v] = (do match ← ReflectliteValue.parts v with | none => z | some (t, a, fl) => f t a fl (fl % 32)) := rfl
theorem Er.parts27 (a : Addr) (w : World) : (ReflectliteValue.parts (.agg #[.pointer (some ⟨21, 200, none⟩), .pointer (some a), .int .u64 150])).run Tryz.prog w = .ok (some (200, a, 150)) w := by kernel_rfl
/-- (Value).IsNil at the Value of a **p.E that is not nil. -/
theorem Er.isNil27 (a p : Addr) (W : World) (ha : W.cell? a = some (.pointer (some p))) :
    (ReflectliteValue.method (ReflectliteValue.valueError "reflectlite.Value.IsNil" 0) ReflectliteValue.isNil #[.agg #[.pointer (some ⟨21, 200, none⟩), .pointer (some a), .int .u64 150]]).run Tryz.prog W = .ok (.bool false) W := by
  rw [rlm]
  simp only [Sem.run_bind, Er.parts27, Result.andThen]
  simp [ReflectliteValue.isNil, loadVar, isAgg, underlying, Tryz.underlying200, ha, Result.andThen]

theorem Er.methodElem (h : Value) (w : World) : (Go.method 492 295 (.agg #[h]) "Elem").run Tryz.prog w = .ok (319, .agg #[h]) w := by kernel_rfl
theorem Er.methodImplements (h : Value) (w : World) : (Go.method 492 295 (.agg #[h]) "Implements").run Tryz.prog w = .ok (320, .agg #[h]) w := by kernel_rfl
theorem Er.methodAssignableTo (h : Value) (w : World) : (Go.method 492 295 (.agg #[h]) "AssignableTo").run Tryz.prog w = .ok (317, .agg #[h]) w := by kernel_rfl
theorem Er.elem27 (w : World) : (ReflectliteType.method ReflectliteType.elem #[.agg #[.pointer (some ⟨21, 200, none⟩)]]).run Tryz.prog w = .ok (.iface 295 (.agg #[.pointer (some ⟨21, 134, none⟩)])) w := by kernel_rfl
theorem Er.implements25 (w : World) : (ReflectliteType.relation "Implements" ReflectliteType.implements_ #[.agg #[.pointer (some ⟨21, 134, none⟩)], .iface 295 (.agg #[.pointer (some ⟨21, 31, none⟩)])]).run Tryz.prog w = .ok (.bool true) w := by kernel_rfl
theorem Er.typeOf25 (v : Value) (w : World) : (ReflectliteType.typeOf #[.iface 134 v]).run Tryz.prog w = .ok (.iface 295 (.agg #[.pointer (some ⟨21, 134, none⟩)])) w := by kernel_rfl
theorem Er.assignable25 (w : World) : (ReflectliteType.relation "AssignableTo" ReflectliteType.assignableTo #[.agg #[.pointer (some ⟨21, 134, none⟩)], .iface 295 (.agg #[.pointer (some ⟨21, 134, none⟩)])]).run Tryz.prog w = .ok (.bool true) w := by kernel_rfl
theorem Er.valueOf25 (e : Addr) (w : World) : (ReflectliteValue.unpack (.iface 134 (.pointer (some e)))).run Tryz.prog w
    = .ok (.agg #[.pointer (some ⟨21, 134, none⟩), .pointer (some ⟨w.heap.size, 0, none⟩), .int .u64 150]) (w.alloc (.cells #[.pointer (some e)] 134)) := by kernel_rfl

theorem Er.elemOf27 (w : World) : (Rtype.elem? 200).run Tryz.prog w = .ok (some 134) w := by kernel_rfl
theorem Er.mk25 (p : Addr) (w : World) : (ReflectliteValue.mk 134 p ReflectliteValue.flagAddr).run Tryz.prog w = .ok (.agg #[.pointer (some ⟨21, 134, none⟩), .pointer (some p), .int .u64 406]) w := by kernel_rfl
/-- (Value).Elem at the Value of a **p.E that is not nil: the Value of the *p.E variable that it points to, addressable. -/
theorem Er.elemV27 (a p : Addr) (W : World) (ha : W.cell? a = some (.pointer (some p))) :
    (ReflectliteValue.method (ReflectliteValue.valueError "reflectlite.Value.Elem" 0) ReflectliteValue.elem #[.agg #[.pointer (some ⟨21, 200, none⟩), .pointer (some a), .int .u64 150]]).run Tryz.prog W
      = .ok (.agg #[.pointer (some ⟨21, 134, none⟩), .pointer (some p), .int .u64 406]) W := by
  rw [rlm]
  simp only [Sem.run_bind, Er.parts27, Result.andThen]
  simp [ReflectliteValue.elem, loadVar, isAgg, underlying, Tryz.underlying200, ha, Result.andThen, Er.elemOf27, Er.mk25]
theorem rls (v x : Value) : ReflectliteValue.set #[v, x] = (do
    let (some (dst, a, fl), some (src, b, _)) := (← ReflectliteValue.parts v, ← ReflectliteValue.parts x)
      | unsupported (.noEntry "extern/(internal/reflectlite.Value).Set.zeroValue")
    if fl / ReflectliteValue.flagAddr % 2 == 0 then unsupported (.noEntry "extern/(internal/reflectlite.Value).Set.unaddressable")
    let val ← loadVar src b
    if ← Rtype.directlyAssignable dst src then storeVar dst a val
    else if ← Rtype.implements dst src then
      if (← Rtype.kind src) == 20 then
        match val with
        | .nilIface => unsupported (.noEntry "extern/reflectlite: a nil value of one interface type handed on as a value of another")
        | _ => storeVar dst a val
      else storeVar dst a (.iface src val)
    else panicString ("reflectlite.Set: value of type " ++ (← Rtype.spelt src) ++ " is not assignable to type " ++ (← Rtype.spelt dst))
    pure (.tuple #[])) := rfl
theorem Er.parts25a (a : Addr) (w : World) : (ReflectliteValue.parts (.agg #[.pointer (some ⟨21, 134, none⟩), .pointer (some a), .int .u64 406])).run Tryz.prog w = .ok (some (134, a, 406)) w := by kernel_rfl
theorem Er.parts25 (a : Addr) (w : World) : (ReflectliteValue.parts (.agg #[.pointer (some ⟨21, 134, none⟩), .pointer (some a), .int .u64 150])).run Tryz.prog w = .ok (some (134, a, 150)) w := by kernel_rfl
theorem Er.direct25 (w : World) : (Rtype.directlyAssignable 134 134).run Tryz.prog w = .ok true w := by kernel_rfl
/-- (Value).Set: the *p.E variable at 'ta' gets what the Value's own variable 'b' holds. -/
theorem Er.set25 (ta b e : Addr) (old : Value) (W : World) (hb : W.cell? b = some (.pointer (some e))) (ht : W.cell? ta = some old) (hf : W.frozen? ta = false) :
    (ReflectliteValue.set #[.agg #[.pointer (some ⟨21, 134, none⟩), .pointer (some ta), .int .u64 406], .agg #[.pointer (some ⟨21, 134, none⟩), .pointer (some b), .int .u64 150]]).run Tryz.prog W
      = .ok (.tuple #[]) (W.setCell ta (.pointer (some e))) := by
  rw [rls]
  simp only [Sem.run_bind, Er.parts25a, Er.parts25, Result.andThen]
  simp [ReflectliteValue.flagAddr, loadVar, isAgg, underlying, Tryz.underlying134, hb, Result.andThen, Er.direct25, storeVar, Value.cells, storeCells, Addr.add]
  rw [run_store Tryz.prog W ta _ _ (by rfl)]
  simp [ht, hf]

set_option maxHeartbeats 4000000 in
theorem as_hit (e t : Addr) (old : Value) (w : World) (hg : w.cell? ⟨12, 0, none⟩ = some (.iface 295 (.agg #[.pointer (some ⟨21, 31, none⟩)]))) (ht0 : w.cell? t = some old) (hf0 : w.frozen? t = false) :
    Calls Tryz.prog 128 #[.iface 134 (.pointer (some e)), .iface 200 (.pointer (some t))] w fun ev w' => ev = .returned (.bool true) ∧ w' = ((((w.alloc (.cells #[.pointer (some t)] 200)).alloc (.cells #[.pointer (some ⟨21, 200, none⟩), .pointer (some ⟨w.heap.size, 0, none⟩), .int .u64 150] 247)).alloc (.cells #[.pointer (some ⟨21, 200, none⟩), .pointer (some ⟨w.heap.size, 0, none⟩), .int .u64 150] 247)).alloc (.cells #[.pointer (some e)] 134)).setCell t (.pointer (some e)) := by
  have h6 := @run_callFunc_extern Tryz.prog 177 _ (fun args => ReflectliteValue.unpack (args.getD 0 (.tuple #[]))) Tryz.func177 (by kernel_rfl) (by kernel_rfl) (by kernel_rfl) (by kernel_rfl)
  have h7 := @run_callFunc_extern Tryz.prog 178 _ (ReflectliteValue.methodAny (ReflectliteValue.valueError "reflectlite.Value.Type" 0) (fun t _ _ _ => ReflectliteType.toType t)) Tryz.func178 (by kernel_rfl) (by kernel_rfl) (by kernel_rfl) (by kernel_rfl)
  have h8 := @run_callFunc_extern Tryz.prog 179 _ (ReflectliteValue.method (ReflectliteValue.valueError "reflectlite.Value.IsNil" 0) ReflectliteValue.isNil) Tryz.func179 (by kernel_rfl) (by kernel_rfl) (by kernel_rfl) (by kernel_rfl)
  have h27 := @run_callFunc_extern Tryz.prog 307 _ (ReflectliteType.abiMethod fun t => do pure (.int .u8 (← Rtype.kind t))) Tryz.func307 (by kernel_rfl) (by kernel_rfl) (by kernel_rfl) (by kernel_rfl)
  have h37 := @run_callFunc_extern Tryz.prog 319 _ (ReflectliteType.method ReflectliteType.elem) Tryz.func319 (by kernel_rfl) (by kernel_rfl) (by kernel_rfl) (by kernel_rfl)
  have h38 := @run_callFunc_extern Tryz.prog 320 _ (ReflectliteType.relation "Implements" ReflectliteType.implements_) Tryz.func320 (by kernel_rfl) (by kernel_rfl) (by kernel_rfl) (by kernel_rfl)
  have h10 := @run_callFunc_extern Tryz.prog 181 _ ReflectliteType.typeOf Tryz.func181 (by kernel_rfl) (by kernel_rfl) (by kernel_rfl) (by kernel_rfl)
  have h35 := @run_callFunc_extern Tryz.prog 317 _ (ReflectliteType.relation "AssignableTo" ReflectliteType.assignableTo) Tryz.func317 (by kernel_rfl) (by kernel_rfl) (by kernel_rfl) (by kernel_rfl)
  have h11 := @run_callFunc_extern Tryz.prog 231 _ (ReflectliteValue.method (ReflectliteValue.valueError "reflectlite.Value.Elem" 0) ReflectliteValue.elem) Tryz.func231 (by kernel_rfl) (by kernel_rfl) (by kernel_rfl) (by kernel_rfl)
  have h12 := @run_callFunc_extern Tryz.prog 232 _ ReflectliteValue.set Tryz.func232 (by kernel_rfl) (by kernel_rfl) (by kernel_rfl) (by kernel_rfl)
  have tO := Er.typeOf25
  have mA := Er.methodAssignableTo
  have a25 := Er.assignable25
  have v25 := Er.valueOf25
  have f6 := Er.valueOf27
  have f7 := Er.type27
  have mK := Er.methodKind
  have mE := Er.methodElem
  have mI := Er.methodImplements
  have k27 := Er.kind27
  have k25 := Er.kind25
  have e27 := Er.elem27
  have i25 := Er.implements25
  have n8 := Er.isNil27 ⟨w.heap.size, 0, none⟩ t ((w.alloc (.cells #[.pointer (some t)] 200)).alloc (.cells #[.pointer (some ⟨21, 200, none⟩), .pointer (some ⟨w.heap.size, 0, none⟩), .int .u64 150] 247)) (by simp)
  have hlt : 12 < w.heap.size := World.block_lt_of_cell? w _ hg
  have hg2 : ((w.alloc (.cells #[.pointer (some t)] 200)).alloc (.cells #[.pointer (some ⟨21, 200, none⟩), .pointer (some ⟨w.heap.size, 0, none⟩), .int .u64 150] 247)).cell? ⟨12, 0, none⟩ = some (.iface 295 (.agg #[.pointer (some ⟨21, 31, none⟩)])) := by
    rw [World.cell?_alloc_lt _ _ ⟨12, 0, none⟩ (by simp; omega), World.cell?_alloc_lt _ _ ⟨12, 0, none⟩ hlt]; exact hg
  have htl : t.block < w.heap.size := by
    rcases Nat.lt_or_ge t.block w.heap.size with h | h
    · exact h
    · simp [World.cell?, Array.getElem?_eq_none h] at ht0
  have el := Er.elemV27 ⟨w.heap.size, 0, none⟩ t (((w.alloc (.cells #[.pointer (some t)] 200)).alloc (.cells #[.pointer (some ⟨21, 200, none⟩), .pointer (some ⟨w.heap.size, 0, none⟩), .int .u64 150] 247)).alloc (.cells #[.pointer (some ⟨21, 200, none⟩), .pointer (some ⟨w.heap.size, 0, none⟩), .int .u64 150] 247)) (by rw [World.cell?_alloc_lt _ _ ⟨w.heap.size, 0, none⟩ (by simp; omega)]; simp)
  have st := Er.set25 t ⟨w.heap.size + 1 + 1 + 1, 0, none⟩ e old ((((w.alloc (.cells #[.pointer (some t)] 200)).alloc (.cells #[.pointer (some ⟨21, 200, none⟩), .pointer (some ⟨w.heap.size, 0, none⟩), .int .u64 150] 247)).alloc (.cells #[.pointer (some ⟨21, 200, none⟩), .pointer (some ⟨w.heap.size, 0, none⟩), .int .u64 150] 247)).alloc (.cells #[.pointer (some e)] 134))
    (by rw [World.cell?_alloc_at _ _ _ _ (by simp)]; rfl)
    (by rw [World.cell?_alloc_lt _ _ t (by simp; omega), World.cell?_alloc_lt _ _ t (by simp; omega), World.cell?_alloc_lt _ _ t (by simp; omega), World.cell?_alloc_lt _ _ t htl]; exact ht0)
    (by rw [World.frozen?_alloc_old _ _ t (by simp; omega), World.frozen?_alloc_old _ _ t (by simp; omega), World.frozen?_alloc_old _ _ t (by simp; omega), World.frozen?_alloc_old _ _ t (Nat.ne_of_lt htl)]; exact hf0)
  go_enter Tryz.func128, Tryz.ntmps128
  go_wp2
  refine wp_loop_rounds 1 ?_
  rw [rounds_succ]
  go_wp2
  go_ret
  exact ⟨rfl, rfl⟩
end Go.Proofs.YtpanoplcamdnkaaGreatDoor
/- errors.As at an error of errors.New that is no *api.Fault. Turned from the guide's worked example on errors.As. Condition: the variable errors.errorType holds the handle of the type error. -/
namespace Go.Proofs.YtpanoplcamdnkaaGreatDoor
open Go.RowKit Go.Extern.Stop Go.Stop Go.Extern
theorem Er.typeOfE (v : Value) (w : World) : (ReflectliteType.typeOf #[.iface 361 v]).run Tryz.prog w = .ok (.iface 295 (.agg #[.pointer (some ⟨21, 361, none⟩)])) w := by kernel_rfl
theorem Er.assignableE (w : World) : (ReflectliteType.relation "AssignableTo" ReflectliteType.assignableTo #[.agg #[.pointer (some ⟨21, 361, none⟩)], .iface 295 (.agg #[.pointer (some ⟨21, 134, none⟩)])]).run Tryz.prog w = .ok (.bool false) w := by kernel_rfl
theorem Er.noAsE (v : Value) (xT : TypeId) (w : World) : (Instr.typeAssert (.iface 361 v) xT 299 true).run Tryz.prog w = .ok (.tuple #[.nilIface, .bool false]) w := run_typeAssert_lacksB Tryz.underlying299 (by kernel_rfl) (by kernel_rfl) v xT w
theorem Er.noUnwrapA (v : Value) (xT : TypeId) (w : World) : (Instr.typeAssert (.iface 361 v) xT 302 true).run Tryz.prog w = .ok (.tuple #[.nilIface, .bool false]) w := run_typeAssert_lacksB Tryz.underlying302 (by kernel_rfl) (by kernel_rfl) v xT w
theorem Er.noUnwrapsA (v : Value) (xT : TypeId) (w : World) : (Instr.typeAssert (.iface 361 v) xT 304 true).run Tryz.prog w = .ok (.tuple #[.nilIface, .bool false]) w := run_typeAssert_lacksB Tryz.underlying304 (by kernel_rfl) (by kernel_rfl) v xT w
/- errors.As at an error of errors.New's make: no *api.Fault: false. -/
set_option maxHeartbeats 4000000 in
theorem as_miss (e t : Addr) (old : Value) (w : World) (hg : w.cell? ⟨12, 0, none⟩ = some (.iface 295 (.agg #[.pointer (some ⟨21, 31, none⟩)]))) (ht0 : w.cell? t = some old) (_hf0 : w.frozen? t = false) :
    Calls Tryz.prog 128 #[.iface 361 (.pointer (some e)), .iface 200 (.pointer (some t))] w fun ev w' => ev = .returned (.bool false) ∧ w' = (((w.alloc (.cells #[.pointer (some t)] 200)).alloc (.cells #[.pointer (some ⟨21, 200, none⟩), .pointer (some ⟨w.heap.size, 0, none⟩), .int .u64 150] 247)).alloc (.cells #[.pointer (some ⟨21, 200, none⟩), .pointer (some ⟨w.heap.size, 0, none⟩), .int .u64 150] 247)) := by
  have h6 := @run_callFunc_extern Tryz.prog 177 _ (fun args => ReflectliteValue.unpack (args.getD 0 (.tuple #[]))) Tryz.func177 (by kernel_rfl) (by kernel_rfl) (by kernel_rfl) (by kernel_rfl)
  have h7 := @run_callFunc_extern Tryz.prog 178 _ (ReflectliteValue.methodAny (ReflectliteValue.valueError "reflectlite.Value.Type" 0) (fun t _ _ _ => ReflectliteType.toType t)) Tryz.func178 (by kernel_rfl) (by kernel_rfl) (by kernel_rfl) (by kernel_rfl)
  have h8 := @run_callFunc_extern Tryz.prog 179 _ (ReflectliteValue.method (ReflectliteValue.valueError "reflectlite.Value.IsNil" 0) ReflectliteValue.isNil) Tryz.func179 (by kernel_rfl) (by kernel_rfl) (by kernel_rfl) (by kernel_rfl)
  have h27 := @run_callFunc_extern Tryz.prog 307 _ (ReflectliteType.abiMethod fun t => do pure (.int .u8 (← Rtype.kind t))) Tryz.func307 (by kernel_rfl) (by kernel_rfl) (by kernel_rfl) (by kernel_rfl)
  have h37 := @run_callFunc_extern Tryz.prog 319 _ (ReflectliteType.method ReflectliteType.elem) Tryz.func319 (by kernel_rfl) (by kernel_rfl) (by kernel_rfl) (by kernel_rfl)
  have h38 := @run_callFunc_extern Tryz.prog 320 _ (ReflectliteType.relation "Implements" ReflectliteType.implements_) Tryz.func320 (by kernel_rfl) (by kernel_rfl) (by kernel_rfl) (by kernel_rfl)
  have h10 := @run_callFunc_extern Tryz.prog 181 _ ReflectliteType.typeOf Tryz.func181 (by kernel_rfl) (by kernel_rfl) (by kernel_rfl) (by kernel_rfl)
  have h35 := @run_callFunc_extern Tryz.prog 317 _ (ReflectliteType.relation "AssignableTo" ReflectliteType.assignableTo) Tryz.func317 (by kernel_rfl) (by kernel_rfl) (by kernel_rfl) (by kernel_rfl)
  have h11 := @run_callFunc_extern Tryz.prog 231 _ (ReflectliteValue.method (ReflectliteValue.valueError "reflectlite.Value.Elem" 0) ReflectliteValue.elem) Tryz.func231 (by kernel_rfl) (by kernel_rfl) (by kernel_rfl) (by kernel_rfl)
  have h12 := @run_callFunc_extern Tryz.prog 232 _ ReflectliteValue.set Tryz.func232 (by kernel_rfl) (by kernel_rfl) (by kernel_rfl) (by kernel_rfl)
  have tO := Er.typeOfE
  have mA := Er.methodAssignableTo
  have a25 := Er.assignableE
  have nA := Er.noAsE
  have uE := Er.noUnwrapA
  have vE := Er.noUnwrapsA
  have f6 := Er.valueOf27
  have f7 := Er.type27
  have mK := Er.methodKind
  have mE := Er.methodElem
  have mI := Er.methodImplements
  have k27 := Er.kind27
  have k25 := Er.kind25
  have e27 := Er.elem27
  have i25 := Er.implements25
  have n8 := Er.isNil27 ⟨w.heap.size, 0, none⟩ t ((w.alloc (.cells #[.pointer (some t)] 200)).alloc (.cells #[.pointer (some ⟨21, 200, none⟩), .pointer (some ⟨w.heap.size, 0, none⟩), .int .u64 150] 247)) (by simp)
  have hlt : 12 < w.heap.size := World.block_lt_of_cell? w _ hg
  have hg2 : ((w.alloc (.cells #[.pointer (some t)] 200)).alloc (.cells #[.pointer (some ⟨21, 200, none⟩), .pointer (some ⟨w.heap.size, 0, none⟩), .int .u64 150] 247)).cell? ⟨12, 0, none⟩ = some (.iface 295 (.agg #[.pointer (some ⟨21, 31, none⟩)])) := by
    rw [World.cell?_alloc_lt _ _ ⟨12, 0, none⟩ (by simp; omega), World.cell?_alloc_lt _ _ ⟨12, 0, none⟩ hlt]; exact hg
  have htl : t.block < w.heap.size := by
    rcases Nat.lt_or_ge t.block w.heap.size with h | h
    · exact h
    · simp [World.cell?, Array.getElem?_eq_none h] at ht0
  go_enter Tryz.func128, Tryz.ntmps128
  go_wp2
  refine wp_loop_rounds 1 ?_
  rw [rounds_succ]
  go_wp2
  go_ret
  exact ⟨rfl, rfl⟩
end Go.Proofs.YtpanoplcamdnkaaGreatDoor
/- errors.Is at a sentinel of errors.New and at an *api.Fault, by contracts: its own text is walked. Turned from the guide's worked example on errors.Is. No conditions. -/
namespace Go.Proofs.YtpanoplcamdnkaaGreatDoor
open Go.RowKit Go.Extern.Stop Go.Stop Go.Extern

/-! ### CLOSED FACTS: what 'reflectlite.TypeOf(target).Comparable()' gives at such a target -/
theorem Er.isTypeOf (v : Value) (w : World) : (Extern.ReflectliteType.typeOf #[.iface 361 v]).run Tryz.prog w = .ok (.iface 295 (.agg #[.pointer (some ⟨21, 361, none⟩)])) w := by kernel_rfl
theorem Er.isComparable (w : World) : ((Extern.ReflectliteType.method fun t => do Rtype.noPackHeld "Comparable" t; (fun a => Value.bool a.comparable) <$> typeInfo t) #[.agg #[.pointer (some ⟨21, 361, none⟩)]]).run Tryz.prog w = .ok (.bool true) w := by kernel_rfl
theorem Er.isMethodComparable (v : Value) (w : World) : (Go.method 492 295 v "Comparable").run Tryz.prog w = .ok (318, v) w := by kernel_rfl
theorem Er.isComp : (Tryz.prog.info? 361).map (·.comparable) = some true := by kernel_rfl
theorem Er.isSize : (Tryz.prog.info? 363).map (·.size) = some 1 := by kernel_rfl

/-! ### CLOSED FACTS ON THE METHOD SETS: what errors.is's assertions find -/
theorem Er.noIsE (v : Value) (xT : TypeId) (w : World) : (Instr.typeAssert (.iface 361 v) xT 306 true).run Tryz.prog w = .ok (.tuple #[.nilIface, .bool false]) w := run_typeAssert_lacksB Tryz.underlying306 (by kernel_rfl) (by kernel_rfl) v xT w
theorem Er.noUnwrapE (v : Value) (xT : TypeId) (w : World) : (Instr.typeAssert (.iface 361 v) xT 302 true).run Tryz.prog w = .ok (.tuple #[.nilIface, .bool false]) w := run_typeAssert_lacksB Tryz.underlying302 (by kernel_rfl) (by kernel_rfl) v xT w
theorem Er.noUnwrapsE (v : Value) (xT : TypeId) (w : World) : (Instr.typeAssert (.iface 361 v) xT 304 true).run Tryz.prog w = .ok (.tuple #[.nilIface, .bool false]) w := run_typeAssert_lacksB Tryz.underlying304 (by kernel_rfl) (by kernel_rfl) v xT w
theorem Er.noIsW (v : Value) (xT : TypeId) (w : World) : (Instr.typeAssert (.iface 134 v) xT 306 true).run Tryz.prog w = .ok (.tuple #[.nilIface, .bool false]) w := run_typeAssert_lacksB Tryz.underlying306 (by kernel_rfl) (by kernel_rfl) v xT w
theorem Er.hasUnwrapW (v : Value) (xT : TypeId) (w : World) : (Instr.typeAssert (.iface 134 v) xT 302 true).run Tryz.prog w = .ok (.tuple #[.iface 134 v, .bool true]) w := run_typeAssert_hasB Tryz.underlying302 (by kernel_rfl) v xT w
theorem Er.methodUnwrap (v : Value) (w : World) : (Go.method 492 134 v "Unwrap").run Tryz.prog w = .ok (311, v) w := by kernel_rfl

/-- errors.Is(x, x), x a pointer to an errors.errorString. -/
theorem is_same (a : Addr) (w : World) :
    Calls Tryz.prog 129 #[.iface 361 (.pointer (some a)), .iface 361 (.pointer (some a))] w fun e w' => e = .returned (.bool true) ∧ w' = w := by
  obtain ⟨i, hi, hcmp⟩ := Option.map_eq_some_iff.1 Er.isComp
  obtain ⟨j, hj, hjs⟩ := Option.map_eq_some_iff.1 Er.isSize
  have h8 := @run_callFunc_extern Tryz.prog 181 _ Extern.ReflectliteType.typeOf Tryz.func181 (by kernel_rfl) (by kernel_rfl) (by kernel_rfl) (by kernel_rfl)
  have h32 := @run_callFunc_extern Tryz.prog 318 _ (Extern.ReflectliteType.method fun t => do Rtype.noPackHeld "Comparable" t; pure (.bool (← typeInfo t).comparable)) Tryz.func318 (by kernel_rfl) (by kernel_rfl) (by kernel_rfl) (by kernel_rfl)
  have tT := Er.isTypeOf
  have cT := Er.isComparable
  have mR := Er.isMethodComparable
  have heq := run_eql_iface_ptr_same (P := Tryz.prog) w a Tryz.underlying31 Tryz.underlying361 hi hcmp hj
  go_enter Tryz.func129, Tryz.ntmps129
  go_wp2
  refine wp_loop_rounds 1 ?_
  rw [rounds_succ]
  go_wp2
  go_ret
  exact ⟨rfl, rfl⟩

/-- errors.Is(x, y), two different pointers to errors.errorString: neither has Is nor Unwrap: false. -/
theorem is_other (a b : Addr) (ca cb : Array Value) (ta tb : TypeId) (w : World) (hne : a ≠ b) (ha : w.heap[a.block]? = some (.cells ca ta (0, 0))) (hb : w.heap[b.block]? = some (.cells cb tb (0, 0))) :
    Calls Tryz.prog 129 #[.iface 361 (.pointer (some a)), .iface 361 (.pointer (some b))] w fun e w' => e = .returned (.bool false) ∧ w' = w := by
  obtain ⟨i, hi, hcmp⟩ := Option.map_eq_some_iff.1 Er.isComp
  obtain ⟨j, hj, hjs⟩ := Option.map_eq_some_iff.1 Er.isSize
  have h8 := @run_callFunc_extern Tryz.prog 181 _ Extern.ReflectliteType.typeOf Tryz.func181 (by kernel_rfl) (by kernel_rfl) (by kernel_rfl) (by kernel_rfl)
  have h32 := @run_callFunc_extern Tryz.prog 318 _ (Extern.ReflectliteType.method fun t => do Rtype.noPackHeld "Comparable" t; pure (.bool (← typeInfo t).comparable)) Tryz.func318 (by kernel_rfl) (by kernel_rfl) (by kernel_rfl) (by kernel_rfl)
  have tT := Er.isTypeOf
  have cT := Er.isComparable
  have mR := Er.isMethodComparable
  have nE := Er.noIsE
  have uE := Er.noUnwrapE
  have vE := Er.noUnwrapsE
  have nW := Er.noIsW
  have uW := Er.hasUnwrapW
  have mU := Er.methodUnwrap
  have heq := run_eql_iface_ptr_other (P := Tryz.prog) w Tryz.underlying31 Tryz.underlying361 hi hcmp hj (by rw [hjs]; decide) hne ha hb
  go_enter Tryz.func129, Tryz.ntmps129
  go_wp2
  refine wp_loop_rounds 1 ?_
  rw [rounds_succ]
  go_wp2
  go_ret
  exact ⟨rfl, rfl⟩

/-- errors.Is(e, x), e a *api.Fault that wraps x itself: one Unwrap, then equal. -/
theorem is_fault_same (pb po : Nat) (b : Addr) (w : World) (h1 : w.cell? ⟨pb, po + 1, none⟩ = some (.iface 361 (.pointer (some b)))) :
    Calls Tryz.prog 129 #[.iface 134 (.pointer (some ⟨pb, po, none⟩)), .iface 361 (.pointer (some b))] w fun e w' => e = .returned (.bool true) ∧ w' = w := by
  obtain ⟨i, hi, hcmp⟩ := Option.map_eq_some_iff.1 Er.isComp
  obtain ⟨j, hj, hjs⟩ := Option.map_eq_some_iff.1 Er.isSize
  have h8 := @run_callFunc_extern Tryz.prog 181 _ Extern.ReflectliteType.typeOf Tryz.func181 (by kernel_rfl) (by kernel_rfl) (by kernel_rfl) (by kernel_rfl)
  have h32 := @run_callFunc_extern Tryz.prog 318 _ (Extern.ReflectliteType.method fun t => do Rtype.noPackHeld "Comparable" t; pure (.bool (← typeInfo t).comparable)) Tryz.func318 (by kernel_rfl) (by kernel_rfl) (by kernel_rfl) (by kernel_rfl)
  have tT := Er.isTypeOf
  have cT := Er.isComparable
  have mR := Er.isMethodComparable
  have nE := Er.noIsE
  have uE := Er.noUnwrapE
  have vE := Er.noUnwrapsE
  have nW := Er.noIsW
  have uW := Er.hasUnwrapW
  have mU := Er.methodUnwrap
  have heq := run_eql_iface_ptr_same (P := Tryz.prog) w b Tryz.underlying31 Tryz.underlying361 hi hcmp hj
  have hty := run_eql_iface_types (P := Tryz.prog) 134 361 (.pointer (some ⟨pb, po, none⟩)) (.pointer (some b)) Tryz.underlying31 (by decide) w
  go_enter Tryz.func129, Tryz.ntmps129
  go_wp2
  refine wp_loop_rounds 2 ?_
  rw [rounds_succ]
  go_wp2
  rw [rounds_succ]
  go_wp2
  go_ret
  exact ⟨rfl, rfl⟩

/-- errors.Is(e, x), e a *api.Fault that wraps another error of errors.New's make. -/
theorem is_fault_other (pb po : Nat) (b a : Addr) (ca cb : Array Value) (ta tb : TypeId) (w : World) (h1 : w.cell? ⟨pb, po + 1, none⟩ = some (.iface 361 (.pointer (some a)))) (hne : a ≠ b) (ha : w.heap[a.block]? = some (.cells ca ta (0, 0))) (hb : w.heap[b.block]? = some (.cells cb tb (0, 0))) :
    Calls Tryz.prog 129 #[.iface 134 (.pointer (some ⟨pb, po, none⟩)), .iface 361 (.pointer (some b))] w fun e w' => e = .returned (.bool false) ∧ w' = w := by
  obtain ⟨i, hi, hcmp⟩ := Option.map_eq_some_iff.1 Er.isComp
  obtain ⟨j, hj, hjs⟩ := Option.map_eq_some_iff.1 Er.isSize
  have h8 := @run_callFunc_extern Tryz.prog 181 _ Extern.ReflectliteType.typeOf Tryz.func181 (by kernel_rfl) (by kernel_rfl) (by kernel_rfl) (by kernel_rfl)
  have h32 := @run_callFunc_extern Tryz.prog 318 _ (Extern.ReflectliteType.method fun t => do Rtype.noPackHeld "Comparable" t; pure (.bool (← typeInfo t).comparable)) Tryz.func318 (by kernel_rfl) (by kernel_rfl) (by kernel_rfl) (by kernel_rfl)
  have tT := Er.isTypeOf
  have cT := Er.isComparable
  have mR := Er.isMethodComparable
  have nE := Er.noIsE
  have uE := Er.noUnwrapE
  have vE := Er.noUnwrapsE
  have nW := Er.noIsW
  have uW := Er.hasUnwrapW
  have mU := Er.methodUnwrap
  have heq := run_eql_iface_ptr_other (P := Tryz.prog) w Tryz.underlying31 Tryz.underlying361 hi hcmp hj (by rw [hjs]; decide) hne ha hb
  have hty := run_eql_iface_types (P := Tryz.prog) 134 361 (.pointer (some ⟨pb, po, none⟩)) (.pointer (some b)) Tryz.underlying31 (by decide) w
  go_enter Tryz.func129, Tryz.ntmps129
  go_wp2
  refine wp_loop_rounds 2 ?_
  rw [rounds_succ]
  go_wp2
  rw [rounds_succ]
  go_wp2
  go_ret
  exact ⟨rfl, rfl⟩

end Go.Proofs.YtpanoplcamdnkaaGreatDoor

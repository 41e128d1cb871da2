/-
  errors.As, errors.Is and errors.Unwrap by contracts, at the error types of package api (after the guide's worked toyas and sentry). Printed by gen_errs.py.
-/
import Derived.Test.YtpbplpnifjbkoabGreatDoorProg
import Derived.WalkKit
import Derived.WalkSpells
import Derived.WalkLawsBesides
import Derived.Handy
import Derived.LaidEql
import Derived.Stop.Asserts
import Derived.RowKitTokens
namespace Go.Proofs.YtpbplpnifjbkoabGreatDoor
open Go.RowKit Go.Extern.Stop Go.Stop Go.Extern

theorem rlm (z : Sem Value) (f : TypeId → Addr → Nat → Nat → Sem Value) (v : Value) :
    ReflectliteValue.method z f #[v] = (do match ← ReflectliteValue.parts v with | none => z | some (t, a, fl) => f t a fl (fl % 32)) := rfl
theorem rls (v x : Value) : ReflectliteValue.set #[v, x] = (do
    let (some (dst, a, fl), some (src, b, _)) := (← ReflectliteValue.parts v, ← ReflectliteValue.parts x)
      | unsupported (.noEntry "extern/(internal/reflectlite.Value).Set.zeroValue")
    if fl / ReflectliteValue.flagAddr % 2 == 0 then unsupported (.noEntry "extern/(internal/reflectlite.Value).Set.unaddressable")
    let val ← loadVar src b
    if ← Rtype.directlyAssignable dst src then storeVar dst a val
    else if ← Rtype.implements dst src then
      if (← Rtype.kind src) == 20 then
        match val with
        | .nilIface => unsupported (.noEntry "extern/reflectlite: a nil value of one interface type handed on as a value of another")
        | _ => storeVar dst a val
      else storeVar dst a (.iface src val)
    else panicString ("reflectlite.Set: value of type " ++ (← Rtype.spelt src) ++ " is not assignable to type " ++ (← Rtype.spelt dst))
    pure (.tuple #[])) := rfl


theorem mKind (h : Value) (w : World) : (Go.method 484 286 (.agg #[h]) "Kind").run Tryz.prog w = .ok (215, h) w := by kernel_rfl
theorem mElem (h : Value) (w : World) : (Go.method 484 286 (.agg #[h]) "Elem").run Tryz.prog w = .ok (230, .agg #[h]) w := by kernel_rfl
theorem mImplements (h : Value) (w : World) : (Go.method 484 286 (.agg #[h]) "Implements").run Tryz.prog w = .ok (231, .agg #[h]) w := by kernel_rfl
theorem mAssignableTo (h : Value) (w : World) : (Go.method 484 286 (.agg #[h]) "AssignableTo").run Tryz.prog w = .ok (228, .agg #[h]) w := by kernel_rfl
theorem mComparable (h : Value) (w : World) : (Go.method 484 286 (.agg #[h]) "Comparable").run Tryz.prog w = .ok (229, .agg #[h]) w := by kernel_rfl


/-! target **api.EnvError -/
theorem valueOfTEnv (t : Addr) (w : World) : (ReflectliteValue.unpack (.iface 139 (.pointer (some t)))).run Tryz.prog w
    = .ok (.agg #[.pointer (some ⟨13, 139, none⟩), .pointer (some ⟨w.heap.size, 0, none⟩), .int .u64 150]) (w.alloc (.cells #[.pointer (some t)] 139)) := by kernel_rfl
theorem typeTEnv (a : Addr) (w : World) : (ReflectliteValue.methodAny (ReflectliteValue.valueError "reflectlite.Value.Type" 0) (fun t _ _ _ => ReflectliteType.toType t) #[.agg #[.pointer (some ⟨13, 139, none⟩), .pointer (some a), .int .u64 150]]).run Tryz.prog w
    = .ok (.iface 286 (.agg #[.pointer (some ⟨13, 139, none⟩)])) w := by kernel_rfl
theorem kindTEnv (w : World) : ((ReflectliteType.abiMethod fun t => (fun a : Nat => Value.int IntKind.u8 (a : Int)) <$> Rtype.kind t) #[.pointer (some ⟨13, 139, none⟩)]).run Tryz.prog w = .ok (.int .u8 22) w := by kernel_rfl
theorem kindEEnv (w : World) : ((ReflectliteType.abiMethod fun t => (fun a : Nat => Value.int IntKind.u8 (a : Int)) <$> Rtype.kind t) #[.pointer (some ⟨13, 137, none⟩)]).run Tryz.prog w = .ok (.int .u8 22) w := by kernel_rfl
theorem partsTEnv (a : Addr) (w : World) : (ReflectliteValue.parts (.agg #[.pointer (some ⟨13, 139, none⟩), .pointer (some a), .int .u64 150])).run Tryz.prog w = .ok (some (139, a, 150)) w := by kernel_rfl
theorem isNilTEnv (a p : Addr) (W : World) (ha : W.cell? a = some (.pointer (some p))) :
    (ReflectliteValue.method (ReflectliteValue.valueError "reflectlite.Value.IsNil" 0) ReflectliteValue.isNil #[.agg #[.pointer (some ⟨13, 139, none⟩), .pointer (some a), .int .u64 150]]).run Tryz.prog W = .ok (.bool false) W := by
  rw [rlm]
  simp only [Sem.run_bind, partsTEnv, Result.andThen]
  simp [ReflectliteValue.isNil, loadVar, isAgg, underlying, Tryz.underlying139, ha, Result.andThen]
theorem elemTEnv (w : World) : (ReflectliteType.method ReflectliteType.elem #[.agg #[.pointer (some ⟨13, 139, none⟩)]]).run Tryz.prog w = .ok (.iface 286 (.agg #[.pointer (some ⟨13, 137, none⟩)])) w := by kernel_rfl
theorem implementsEnv (w : World) : (ReflectliteType.relation "Implements" ReflectliteType.implements_ #[.agg #[.pointer (some ⟨13, 137, none⟩)], .iface 286 (.agg #[.pointer (some ⟨13, 61, none⟩)])]).run Tryz.prog w = .ok (.bool true) w := by kernel_rfl
theorem valueOfEEnv (e : Addr) (w : World) : (ReflectliteValue.unpack (.iface 137 (.pointer (some e)))).run Tryz.prog w
    = .ok (.agg #[.pointer (some ⟨13, 137, none⟩), .pointer (some ⟨w.heap.size, 0, none⟩), .int .u64 150]) (w.alloc (.cells #[.pointer (some e)] 137)) := by kernel_rfl
theorem elemOfTEnv (w : World) : (Rtype.elem? 139).run Tryz.prog w = .ok (some 137) w := by kernel_rfl
theorem mkEEnv (p : Addr) (w : World) : (ReflectliteValue.mk 137 p ReflectliteValue.flagAddr).run Tryz.prog w = .ok (.agg #[.pointer (some ⟨13, 137, none⟩), .pointer (some p), .int .u64 406]) w := by kernel_rfl
theorem elemVEnv (a p : Addr) (W : World) (ha : W.cell? a = some (.pointer (some p))) :
    (ReflectliteValue.method (ReflectliteValue.valueError "reflectlite.Value.Elem" 0) ReflectliteValue.elem #[.agg #[.pointer (some ⟨13, 139, none⟩), .pointer (some a), .int .u64 150]]).run Tryz.prog W
      = .ok (.agg #[.pointer (some ⟨13, 137, none⟩), .pointer (some p), .int .u64 406]) W := by
  rw [rlm]
  simp only [Sem.run_bind, partsTEnv, Result.andThen]
  simp [ReflectliteValue.elem, loadVar, isAgg, underlying, Tryz.underlying139, ha, Result.andThen, elemOfTEnv, mkEEnv]
theorem partsEaEnv (a : Addr) (w : World) : (ReflectliteValue.parts (.agg #[.pointer (some ⟨13, 137, none⟩), .pointer (some a), .int .u64 406])).run Tryz.prog w = .ok (some (137, a, 406)) w := by kernel_rfl
theorem partsEEnv (a : Addr) (w : World) : (ReflectliteValue.parts (.agg #[.pointer (some ⟨13, 137, none⟩), .pointer (some a), .int .u64 150])).run Tryz.prog w = .ok (some (137, a, 150)) w := by kernel_rfl
theorem directEnv (w : World) : (Rtype.directlyAssignable 137 137).run Tryz.prog w = .ok true w := by kernel_rfl
theorem setEnv (ta b e : Addr) (old : Value) (W : World) (hb : W.cell? b = some (.pointer (some e))) (ht : W.cell? ta = some old) (hf : W.frozen? ta = false) :
    (ReflectliteValue.set #[.agg #[.pointer (some ⟨13, 137, none⟩), .pointer (some ta), .int .u64 406], .agg #[.pointer (some ⟨13, 137, none⟩), .pointer (some b), .int .u64 150]]).run Tryz.prog W
      = .ok (.tuple #[]) (W.setCell ta (.pointer (some e))) := by
  rw [rls]
  simp only [Sem.run_bind, partsEaEnv, partsEEnv, Result.andThen]
  simp [ReflectliteValue.flagAddr, loadVar, isAgg, underlying, Tryz.underlying137, hb, Result.andThen, directEnv, storeVar, Value.cells, storeCells, Addr.add]
  rw [run_store Tryz.prog W ta _ _ (by rfl)]
  simp [ht, hf]

/-! target **api.SyntaxError -/
theorem valueOfTSyn (t : Addr) (w : World) : (ReflectliteValue.unpack (.iface 144 (.pointer (some t)))).run Tryz.prog w
    = .ok (.agg #[.pointer (some ⟨13, 144, none⟩), .pointer (some ⟨w.heap.size, 0, none⟩), .int .u64 150]) (w.alloc (.cells #[.pointer (some t)] 144)) := by kernel_rfl
theorem typeTSyn (a : Addr) (w : World) : (ReflectliteValue.methodAny (ReflectliteValue.valueError "reflectlite.Value.Type" 0) (fun t _ _ _ => ReflectliteType.toType t) #[.agg #[.pointer (some ⟨13, 144, none⟩), .pointer (some a), .int .u64 150]]).run Tryz.prog w
    = .ok (.iface 286 (.agg #[.pointer (some ⟨13, 144, none⟩)])) w := by kernel_rfl
theorem kindTSyn (w : World) : ((ReflectliteType.abiMethod fun t => (fun a : Nat => Value.int IntKind.u8 (a : Int)) <$> Rtype.kind t) #[.pointer (some ⟨13, 144, none⟩)]).run Tryz.prog w = .ok (.int .u8 22) w := by kernel_rfl
theorem kindESyn (w : World) : ((ReflectliteType.abiMethod fun t => (fun a : Nat => Value.int IntKind.u8 (a : Int)) <$> Rtype.kind t) #[.pointer (some ⟨13, 135, none⟩)]).run Tryz.prog w = .ok (.int .u8 22) w := by kernel_rfl
theorem partsTSyn (a : Addr) (w : World) : (ReflectliteValue.parts (.agg #[.pointer (some ⟨13, 144, none⟩), .pointer (some a), .int .u64 150])).run Tryz.prog w = .ok (some (144, a, 150)) w := by kernel_rfl
theorem isNilTSyn (a p : Addr) (W : World) (ha : W.cell? a = some (.pointer (some p))) :
    (ReflectliteValue.method (ReflectliteValue.valueError "reflectlite.Value.IsNil" 0) ReflectliteValue.isNil #[.agg #[.pointer (some ⟨13, 144, none⟩), .pointer (some a), .int .u64 150]]).run Tryz.prog W = .ok (.bool false) W := by
  rw [rlm]
  simp only [Sem.run_bind, partsTSyn, Result.andThen]
  simp [ReflectliteValue.isNil, loadVar, isAgg, underlying, Tryz.underlying144, ha, Result.andThen]
theorem elemTSyn (w : World) : (ReflectliteType.method ReflectliteType.elem #[.agg #[.pointer (some ⟨13, 144, none⟩)]]).run Tryz.prog w = .ok (.iface 286 (.agg #[.pointer (some ⟨13, 135, none⟩)])) w := by kernel_rfl
theorem implementsSyn (w : World) : (ReflectliteType.relation "Implements" ReflectliteType.implements_ #[.agg #[.pointer (some ⟨13, 135, none⟩)], .iface 286 (.agg #[.pointer (some ⟨13, 61, none⟩)])]).run Tryz.prog w = .ok (.bool true) w := by kernel_rfl
theorem valueOfESyn (e : Addr) (w : World) : (ReflectliteValue.unpack (.iface 135 (.pointer (some e)))).run Tryz.prog w
    = .ok (.agg #[.pointer (some ⟨13, 135, none⟩), .pointer (some ⟨w.heap.size, 0, none⟩), .int .u64 150]) (w.alloc (.cells #[.pointer (some e)] 135)) := by kernel_rfl
theorem elemOfTSyn (w : World) : (Rtype.elem? 144).run Tryz.prog w = .ok (some 135) w := by kernel_rfl
theorem mkESyn (p : Addr) (w : World) : (ReflectliteValue.mk 135 p ReflectliteValue.flagAddr).run Tryz.prog w = .ok (.agg #[.pointer (some ⟨13, 135, none⟩), .pointer (some p), .int .u64 406]) w := by kernel_rfl
theorem elemVSyn (a p : Addr) (W : World) (ha : W.cell? a = some (.pointer (some p))) :
    (ReflectliteValue.method (ReflectliteValue.valueError "reflectlite.Value.Elem" 0) ReflectliteValue.elem #[.agg #[.pointer (some ⟨13, 144, none⟩), .pointer (some a), .int .u64 150]]).run Tryz.prog W
      = .ok (.agg #[.pointer (some ⟨13, 135, none⟩), .pointer (some p), .int .u64 406]) W := by
  rw [rlm]
  simp only [Sem.run_bind, partsTSyn, Result.andThen]
  simp [ReflectliteValue.elem, loadVar, isAgg, underlying, Tryz.underlying144, ha, Result.andThen, elemOfTSyn, mkESyn]
theorem partsEaSyn (a : Addr) (w : World) : (ReflectliteValue.parts (.agg #[.pointer (some ⟨13, 135, none⟩), .pointer (some a), .int .u64 406])).run Tryz.prog w = .ok (some (135, a, 406)) w := by kernel_rfl
theorem partsESyn (a : Addr) (w : World) : (ReflectliteValue.parts (.agg #[.pointer (some ⟨13, 135, none⟩), .pointer (some a), .int .u64 150])).run Tryz.prog w = .ok (some (135, a, 150)) w := by kernel_rfl
theorem directSyn (w : World) : (Rtype.directlyAssignable 135 135).run Tryz.prog w = .ok true w := by kernel_rfl
theorem setSyn (ta b e : Addr) (old : Value) (W : World) (hb : W.cell? b = some (.pointer (some e))) (ht : W.cell? ta = some old) (hf : W.frozen? ta = false) :
    (ReflectliteValue.set #[.agg #[.pointer (some ⟨13, 135, none⟩), .pointer (some ta), .int .u64 406], .agg #[.pointer (some ⟨13, 135, none⟩), .pointer (some b), .int .u64 150]]).run Tryz.prog W
      = .ok (.tuple #[]) (W.setCell ta (.pointer (some e))) := by
  rw [rls]
  simp only [Sem.run_bind, partsEaSyn, partsESyn, Result.andThen]
  simp [ReflectliteValue.flagAddr, loadVar, isAgg, underlying, Tryz.underlying135, hb, Result.andThen, directSyn, storeVar, Value.cells, storeCells, Addr.add]
  rw [run_store Tryz.prog W ta _ _ (by rfl)]
  simp [ht, hf]

/-! target **api.UnboundError -/
theorem valueOfTUnb (t : Addr) (w : World) : (ReflectliteValue.unpack (.iface 147 (.pointer (some t)))).run Tryz.prog w
    = .ok (.agg #[.pointer (some ⟨13, 147, none⟩), .pointer (some ⟨w.heap.size, 0, none⟩), .int .u64 150]) (w.alloc (.cells #[.pointer (some t)] 147)) := by kernel_rfl
theorem typeTUnb (a : Addr) (w : World) : (ReflectliteValue.methodAny (ReflectliteValue.valueError "reflectlite.Value.Type" 0) (fun t _ _ _ => ReflectliteType.toType t) #[.agg #[.pointer (some ⟨13, 147, none⟩), .pointer (some a), .int .u64 150]]).run Tryz.prog w
    = .ok (.iface 286 (.agg #[.pointer (some ⟨13, 147, none⟩)])) w := by kernel_rfl
theorem kindTUnb (w : World) : ((ReflectliteType.abiMethod fun t => (fun a : Nat => Value.int IntKind.u8 (a : Int)) <$> Rtype.kind t) #[.pointer (some ⟨13, 147, none⟩)]).run Tryz.prog w = .ok (.int .u8 22) w := by kernel_rfl
theorem kindEUnb (w : World) : ((ReflectliteType.abiMethod fun t => (fun a : Nat => Value.int IntKind.u8 (a : Int)) <$> Rtype.kind t) #[.pointer (some ⟨13, 136, none⟩)]).run Tryz.prog w = .ok (.int .u8 22) w := by kernel_rfl
theorem partsTUnb (a : Addr) (w : World) : (ReflectliteValue.parts (.agg #[.pointer (some ⟨13, 147, none⟩), .pointer (some a), .int .u64 150])).run Tryz.prog w = .ok (some (147, a, 150)) w := by kernel_rfl
theorem isNilTUnb (a p : Addr) (W : World) (ha : W.cell? a = some (.pointer (some p))) :
    (ReflectliteValue.method (ReflectliteValue.valueError "reflectlite.Value.IsNil" 0) ReflectliteValue.isNil #[.agg #[.pointer (some ⟨13, 147, none⟩), .pointer (some a), .int .u64 150]]).run Tryz.prog W = .ok (.bool false) W := by
  rw [rlm]
  simp only [Sem.run_bind, partsTUnb, Result.andThen]
  simp [ReflectliteValue.isNil, loadVar, isAgg, underlying, Tryz.underlying147, ha, Result.andThen]
theorem elemTUnb (w : World) : (ReflectliteType.method ReflectliteType.elem #[.agg #[.pointer (some ⟨13, 147, none⟩)]]).run Tryz.prog w = .ok (.iface 286 (.agg #[.pointer (some ⟨13, 136, none⟩)])) w := by kernel_rfl
theorem implementsUnb (w : World) : (ReflectliteType.relation "Implements" ReflectliteType.implements_ #[.agg #[.pointer (some ⟨13, 136, none⟩)], .iface 286 (.agg #[.pointer (some ⟨13, 61, none⟩)])]).run Tryz.prog w = .ok (.bool true) w := by kernel_rfl
theorem valueOfEUnb (e : Addr) (w : World) : (ReflectliteValue.unpack (.iface 136 (.pointer (some e)))).run Tryz.prog w
    = .ok (.agg #[.pointer (some ⟨13, 136, none⟩), .pointer (some ⟨w.heap.size, 0, none⟩), .int .u64 150]) (w.alloc (.cells #[.pointer (some e)] 136)) := by kernel_rfl
theorem elemOfTUnb (w : World) : (Rtype.elem? 147).run Tryz.prog w = .ok (some 136) w := by kernel_rfl
theorem mkEUnb (p : Addr) (w : World) : (ReflectliteValue.mk 136 p ReflectliteValue.flagAddr).run Tryz.prog w = .ok (.agg #[.pointer (some ⟨13, 136, none⟩), .pointer (some p), .int .u64 406]) w := by kernel_rfl
theorem elemVUnb (a p : Addr) (W : World) (ha : W.cell? a = some (.pointer (some p))) :
    (ReflectliteValue.method (ReflectliteValue.valueError "reflectlite.Value.Elem" 0) ReflectliteValue.elem #[.agg #[.pointer (some ⟨13, 147, none⟩), .pointer (some a), .int .u64 150]]).run Tryz.prog W
      = .ok (.agg #[.pointer (some ⟨13, 136, none⟩), .pointer (some p), .int .u64 406]) W := by
  rw [rlm]
  simp only [Sem.run_bind, partsTUnb, Result.andThen]
  simp [ReflectliteValue.elem, loadVar, isAgg, underlying, Tryz.underlying147, ha, Result.andThen, elemOfTUnb, mkEUnb]
theorem partsEaUnb (a : Addr) (w : World) : (ReflectliteValue.parts (.agg #[.pointer (some ⟨13, 136, none⟩), .pointer (some a), .int .u64 406])).run Tryz.prog w = .ok (some (136, a, 406)) w := by kernel_rfl
theorem partsEUnb (a : Addr) (w : World) : (ReflectliteValue.parts (.agg #[.pointer (some ⟨13, 136, none⟩), .pointer (some a), .int .u64 150])).run Tryz.prog w = .ok (some (136, a, 150)) w := by kernel_rfl
theorem directUnb (w : World) : (Rtype.directlyAssignable 136 136).run Tryz.prog w = .ok true w := by kernel_rfl
theorem setUnb (ta b e : Addr) (old : Value) (W : World) (hb : W.cell? b = some (.pointer (some e))) (ht : W.cell? ta = some old) (hf : W.frozen? ta = false) :
    (ReflectliteValue.set #[.agg #[.pointer (some ⟨13, 136, none⟩), .pointer (some ta), .int .u64 406], .agg #[.pointer (some ⟨13, 136, none⟩), .pointer (some b), .int .u64 150]]).run Tryz.prog W
      = .ok (.tuple #[]) (W.setCell ta (.pointer (some e))) := by
  rw [rls]
  simp only [Sem.run_bind, partsEaUnb, partsEUnb, Result.andThen]
  simp [ReflectliteValue.flagAddr, loadVar, isAgg, underlying, Tryz.underlying136, hb, Result.andThen, directUnb, storeVar, Value.cells, storeCells, Addr.add]
  rw [run_store Tryz.prog W ta _ _ (by rfl)]
  simp [ht, hf]
/-! the dynamic types of errors -/
def cmpEntry : Array Value → Sem Value := ReflectliteType.method fun t => do Rtype.noPackHeld "Comparable" t; pure (.bool (← typeInfo t).comparable)
theorem typeOfEnv (v : Value) (w : World) : (ReflectliteType.typeOf #[.iface 137 v]).run Tryz.prog w = .ok (.iface 286 (.agg #[.pointer (some ⟨13, 137, none⟩)])) w := by kernel_rfl
theorem comparableEnv (w : World) : (cmpEntry #[.agg #[.pointer (some ⟨13, 137, none⟩)]]).run Tryz.prog w = .ok (.bool true) w := by kernel_rfl
theorem compEnv : (Tryz.prog.info? 137).map (·.comparable) = some true := by kernel_rfl
theorem sizeEnv : ((Tryz.prog.info? 141).map fun i => decide (i.size ≠ 0)) = some true := by kernel_rfl
theorem noIsEnv (v : Value) (xT : TypeId) (w : World) : (Instr.typeAssert (.iface 137 v) xT 296 true).run Tryz.prog w = .ok (.tuple #[.nilIface, .bool false]) w := run_typeAssert_lacksB Tryz.underlying296 (by kernel_rfl) (by kernel_rfl) v xT w
theorem noAsEnv (v : Value) (xT : TypeId) (w : World) : (Instr.typeAssert (.iface 137 v) xT 290 true).run Tryz.prog w = .ok (.tuple #[.nilIface, .bool false]) w := run_typeAssert_lacksB Tryz.underlying290 (by kernel_rfl) (by kernel_rfl) v xT w
theorem hasUnwrapEnv (v : Value) (xT : TypeId) (w : World) : (Instr.typeAssert (.iface 137 v) xT 240 true).run Tryz.prog w = .ok (.tuple #[.iface 137 v, .bool true]) w := run_typeAssert_hasB Tryz.underlying240 (by kernel_rfl) v xT w
theorem mUnwrap (v : Value) (w : World) : (Go.method 484 137 v "Unwrap").run Tryz.prog w = .ok (221, v) w := by kernel_rfl
theorem typeOfSyn (v : Value) (w : World) : (ReflectliteType.typeOf #[.iface 135 v]).run Tryz.prog w = .ok (.iface 286 (.agg #[.pointer (some ⟨13, 135, none⟩)])) w := by kernel_rfl
theorem comparableSyn (w : World) : (cmpEntry #[.agg #[.pointer (some ⟨13, 135, none⟩)]]).run Tryz.prog w = .ok (.bool true) w := by kernel_rfl
theorem compSyn : (Tryz.prog.info? 135).map (·.comparable) = some true := by kernel_rfl
theorem sizeSyn : ((Tryz.prog.info? 146).map fun i => decide (i.size ≠ 0)) = some true := by kernel_rfl
theorem noIsSyn (v : Value) (xT : TypeId) (w : World) : (Instr.typeAssert (.iface 135 v) xT 296 true).run Tryz.prog w = .ok (.tuple #[.nilIface, .bool false]) w := run_typeAssert_lacksB Tryz.underlying296 (by kernel_rfl) (by kernel_rfl) v xT w
theorem noAsSyn (v : Value) (xT : TypeId) (w : World) : (Instr.typeAssert (.iface 135 v) xT 290 true).run Tryz.prog w = .ok (.tuple #[.nilIface, .bool false]) w := run_typeAssert_lacksB Tryz.underlying290 (by kernel_rfl) (by kernel_rfl) v xT w
theorem noUnwrapSyn (v : Value) (xT : TypeId) (w : World) : (Instr.typeAssert (.iface 135 v) xT 240 true).run Tryz.prog w = .ok (.tuple #[.nilIface, .bool false]) w := run_typeAssert_lacksB Tryz.underlying240 (by kernel_rfl) (by kernel_rfl) v xT w
theorem noUnwrapsSyn (v : Value) (xT : TypeId) (w : World) : (Instr.typeAssert (.iface 135 v) xT 293 true).run Tryz.prog w = .ok (.tuple #[.nilIface, .bool false]) w := run_typeAssert_lacksB Tryz.underlying293 (by kernel_rfl) (by kernel_rfl) v xT w
theorem typeOfUnb (v : Value) (w : World) : (ReflectliteType.typeOf #[.iface 136 v]).run Tryz.prog w = .ok (.iface 286 (.agg #[.pointer (some ⟨13, 136, none⟩)])) w := by kernel_rfl
theorem comparableUnb (w : World) : (cmpEntry #[.agg #[.pointer (some ⟨13, 136, none⟩)]]).run Tryz.prog w = .ok (.bool true) w := by kernel_rfl
theorem compUnb : (Tryz.prog.info? 136).map (·.comparable) = some true := by kernel_rfl
theorem sizeUnb : ((Tryz.prog.info? 149).map fun i => decide (i.size ≠ 0)) = some true := by kernel_rfl
theorem noIsUnb (v : Value) (xT : TypeId) (w : World) : (Instr.typeAssert (.iface 136 v) xT 296 true).run Tryz.prog w = .ok (.tuple #[.nilIface, .bool false]) w := run_typeAssert_lacksB Tryz.underlying296 (by kernel_rfl) (by kernel_rfl) v xT w
theorem noAsUnb (v : Value) (xT : TypeId) (w : World) : (Instr.typeAssert (.iface 136 v) xT 290 true).run Tryz.prog w = .ok (.tuple #[.nilIface, .bool false]) w := run_typeAssert_lacksB Tryz.underlying290 (by kernel_rfl) (by kernel_rfl) v xT w
theorem noUnwrapUnb (v : Value) (xT : TypeId) (w : World) : (Instr.typeAssert (.iface 136 v) xT 240 true).run Tryz.prog w = .ok (.tuple #[.nilIface, .bool false]) w := run_typeAssert_lacksB Tryz.underlying240 (by kernel_rfl) (by kernel_rfl) v xT w
theorem noUnwrapsUnb (v : Value) (xT : TypeId) (w : World) : (Instr.typeAssert (.iface 136 v) xT 293 true).run Tryz.prog w = .ok (.tuple #[.nilIface, .bool false]) w := run_typeAssert_lacksB Tryz.underlying293 (by kernel_rfl) (by kernel_rfl) v xT w
theorem typeOfStr (v : Value) (w : World) : (ReflectliteType.typeOf #[.iface 354 v]).run Tryz.prog w = .ok (.iface 286 (.agg #[.pointer (some ⟨13, 354, none⟩)])) w := by kernel_rfl
theorem comparableStr (w : World) : (cmpEntry #[.agg #[.pointer (some ⟨13, 354, none⟩)]]).run Tryz.prog w = .ok (.bool true) w := by kernel_rfl
theorem compStr : (Tryz.prog.info? 354).map (·.comparable) = some true := by kernel_rfl
theorem sizeStr : ((Tryz.prog.info? 372).map fun i => decide (i.size ≠ 0)) = some true := by kernel_rfl
theorem noIsStr (v : Value) (xT : TypeId) (w : World) : (Instr.typeAssert (.iface 354 v) xT 296 true).run Tryz.prog w = .ok (.tuple #[.nilIface, .bool false]) w := run_typeAssert_lacksB Tryz.underlying296 (by kernel_rfl) (by kernel_rfl) v xT w
theorem noAsStr (v : Value) (xT : TypeId) (w : World) : (Instr.typeAssert (.iface 354 v) xT 290 true).run Tryz.prog w = .ok (.tuple #[.nilIface, .bool false]) w := run_typeAssert_lacksB Tryz.underlying290 (by kernel_rfl) (by kernel_rfl) v xT w
theorem noUnwrapStr (v : Value) (xT : TypeId) (w : World) : (Instr.typeAssert (.iface 354 v) xT 240 true).run Tryz.prog w = .ok (.tuple #[.nilIface, .bool false]) w := run_typeAssert_lacksB Tryz.underlying240 (by kernel_rfl) (by kernel_rfl) v xT w
theorem noUnwrapsStr (v : Value) (xT : TypeId) (w : World) : (Instr.typeAssert (.iface 354 v) xT 293 true).run Tryz.prog w = .ok (.tuple #[.nilIface, .bool false]) w := run_typeAssert_lacksB Tryz.underlying293 (by kernel_rfl) (by kernel_rfl) v xT w
theorem asgEnvEnv (w : World) : (ReflectliteType.relation "AssignableTo" ReflectliteType.assignableTo #[.agg #[.pointer (some ⟨13, 137, none⟩)], .iface 286 (.agg #[.pointer (some ⟨13, 137, none⟩)])]).run Tryz.prog w = .ok (.bool true) w := by kernel_rfl
theorem asgEnvSyn (w : World) : (ReflectliteType.relation "AssignableTo" ReflectliteType.assignableTo #[.agg #[.pointer (some ⟨13, 137, none⟩)], .iface 286 (.agg #[.pointer (some ⟨13, 135, none⟩)])]).run Tryz.prog w = .ok (.bool false) w := by kernel_rfl
theorem asgEnvUnb (w : World) : (ReflectliteType.relation "AssignableTo" ReflectliteType.assignableTo #[.agg #[.pointer (some ⟨13, 137, none⟩)], .iface 286 (.agg #[.pointer (some ⟨13, 136, none⟩)])]).run Tryz.prog w = .ok (.bool false) w := by kernel_rfl
theorem asgSynEnv (w : World) : (ReflectliteType.relation "AssignableTo" ReflectliteType.assignableTo #[.agg #[.pointer (some ⟨13, 135, none⟩)], .iface 286 (.agg #[.pointer (some ⟨13, 137, none⟩)])]).run Tryz.prog w = .ok (.bool false) w := by kernel_rfl
theorem asgSynSyn (w : World) : (ReflectliteType.relation "AssignableTo" ReflectliteType.assignableTo #[.agg #[.pointer (some ⟨13, 135, none⟩)], .iface 286 (.agg #[.pointer (some ⟨13, 135, none⟩)])]).run Tryz.prog w = .ok (.bool true) w := by kernel_rfl
theorem asgSynUnb (w : World) : (ReflectliteType.relation "AssignableTo" ReflectliteType.assignableTo #[.agg #[.pointer (some ⟨13, 135, none⟩)], .iface 286 (.agg #[.pointer (some ⟨13, 136, none⟩)])]).run Tryz.prog w = .ok (.bool false) w := by kernel_rfl
theorem asgUnbEnv (w : World) : (ReflectliteType.relation "AssignableTo" ReflectliteType.assignableTo #[.agg #[.pointer (some ⟨13, 136, none⟩)], .iface 286 (.agg #[.pointer (some ⟨13, 137, none⟩)])]).run Tryz.prog w = .ok (.bool false) w := by kernel_rfl
theorem asgUnbSyn (w : World) : (ReflectliteType.relation "AssignableTo" ReflectliteType.assignableTo #[.agg #[.pointer (some ⟨13, 136, none⟩)], .iface 286 (.agg #[.pointer (some ⟨13, 135, none⟩)])]).run Tryz.prog w = .ok (.bool false) w := by kernel_rfl
theorem asgUnbUnb (w : World) : (ReflectliteType.relation "AssignableTo" ReflectliteType.assignableTo #[.agg #[.pointer (some ⟨13, 136, none⟩)], .iface 286 (.agg #[.pointer (some ⟨13, 136, none⟩)])]).run Tryz.prog w = .ok (.bool true) w := by kernel_rfl
theorem asgStrEnv (w : World) : (ReflectliteType.relation "AssignableTo" ReflectliteType.assignableTo #[.agg #[.pointer (some ⟨13, 354, none⟩)], .iface 286 (.agg #[.pointer (some ⟨13, 137, none⟩)])]).run Tryz.prog w = .ok (.bool false) w := by kernel_rfl
theorem asgStrSyn (w : World) : (ReflectliteType.relation "AssignableTo" ReflectliteType.assignableTo #[.agg #[.pointer (some ⟨13, 354, none⟩)], .iface 286 (.agg #[.pointer (some ⟨13, 135, none⟩)])]).run Tryz.prog w = .ok (.bool false) w := by kernel_rfl
theorem asgStrUnb (w : World) : (ReflectliteType.relation "AssignableTo" ReflectliteType.assignableTo #[.agg #[.pointer (some ⟨13, 354, none⟩)], .iface 286 (.agg #[.pointer (some ⟨13, 136, none⟩)])]).run Tryz.prog w = .ok (.bool false) w := by kernel_rfl
end Go.Proofs.YtpbplpnifjbkoabGreatDoor

/-
  What a type switch over the eight expressions comes to. Printed by gen_ast.py.
-/
import Derived.Test.YtpbplpnifjbkoabGreatDoorExpx
namespace Go.Proofs.YtpbplpnifjbkoabGreatDoor
open Go.RowKit

theorem taNameName (v : Value) (xT : TypeId) (w : World) : (Instr.typeAssert (.iface 207 v) xT 207 true).run Tryz.prog w = .ok (.tuple #[v, .bool true]) w := by kernel_rfl
theorem taNameNum (v : Value) (xT : TypeId) (w : World) : (Instr.typeAssert (.iface 207 v) xT 251 true).run Tryz.prog w = .ok (.tuple #[.pointer none, .bool false]) w := by kernel_rfl
theorem taNameFun (v : Value) (xT : TypeId) (w : World) : (Instr.typeAssert (.iface 207 v) xT 212 true).run Tryz.prog w = .ok (.tuple #[.pointer none, .bool false]) w := by kernel_rfl
theorem taNameApp (v : Value) (xT : TypeId) (w : World) : (Instr.typeAssert (.iface 207 v) xT 261 true).run Tryz.prog w = .ok (.tuple #[.pointer none, .bool false]) w := by kernel_rfl
theorem taNamePair (v : Value) (xT : TypeId) (w : World) : (Instr.typeAssert (.iface 207 v) xT 254 true).run Tryz.prog w = .ok (.tuple #[.pointer none, .bool false]) w := by kernel_rfl
theorem taNameLet (v : Value) (xT : TypeId) (w : World) : (Instr.typeAssert (.iface 207 v) xT 215 true).run Tryz.prog w = .ok (.tuple #[.pointer none, .bool false]) w := by kernel_rfl
theorem taNameRec (v : Value) (xT : TypeId) (w : World) : (Instr.typeAssert (.iface 207 v) xT 218 true).run Tryz.prog w = .ok (.tuple #[.pointer none, .bool false]) w := by kernel_rfl
theorem taNameIf (v : Value) (xT : TypeId) (w : World) : (Instr.typeAssert (.iface 207 v) xT 257 true).run Tryz.prog w = .ok (.tuple #[.pointer none, .bool false]) w := by kernel_rfl
theorem taNumName (v : Value) (xT : TypeId) (w : World) : (Instr.typeAssert (.iface 251 v) xT 207 true).run Tryz.prog w = .ok (.tuple #[.pointer none, .bool false]) w := by kernel_rfl
theorem taNumNum (v : Value) (xT : TypeId) (w : World) : (Instr.typeAssert (.iface 251 v) xT 251 true).run Tryz.prog w = .ok (.tuple #[v, .bool true]) w := by kernel_rfl
theorem taNumFun (v : Value) (xT : TypeId) (w : World) : (Instr.typeAssert (.iface 251 v) xT 212 true).run Tryz.prog w = .ok (.tuple #[.pointer none, .bool false]) w := by kernel_rfl
theorem taNumApp (v : Value) (xT : TypeId) (w : World) : (Instr.typeAssert (.iface 251 v) xT 261 true).run Tryz.prog w = .ok (.tuple #[.pointer none, .bool false]) w := by kernel_rfl
theorem taNumPair (v : Value) (xT : TypeId) (w : World) : (Instr.typeAssert (.iface 251 v) xT 254 true).run Tryz.prog w = .ok (.tuple #[.pointer none, .bool false]) w := by kernel_rfl
theorem taNumLet (v : Value) (xT : TypeId) (w : World) : (Instr.typeAssert (.iface 251 v) xT 215 true).run Tryz.prog w = .ok (.tuple #[.pointer none, .bool false]) w := by kernel_rfl
theorem taNumRec (v : Value) (xT : TypeId) (w : World) : (Instr.typeAssert (.iface 251 v) xT 218 true).run Tryz.prog w = .ok (.tuple #[.pointer none, .bool false]) w := by kernel_rfl
theorem taNumIf (v : Value) (xT : TypeId) (w : World) : (Instr.typeAssert (.iface 251 v) xT 257 true).run Tryz.prog w = .ok (.tuple #[.pointer none, .bool false]) w := by kernel_rfl
theorem taFunName (v : Value) (xT : TypeId) (w : World) : (Instr.typeAssert (.iface 212 v) xT 207 true).run Tryz.prog w = .ok (.tuple #[.pointer none, .bool false]) w := by kernel_rfl
theorem taFunNum (v : Value) (xT : TypeId) (w : World) : (Instr.typeAssert (.iface 212 v) xT 251 true).run Tryz.prog w = .ok (.tuple #[.pointer none, .bool false]) w := by kernel_rfl
theorem taFunFun (v : Value) (xT : TypeId) (w : World) : (Instr.typeAssert (.iface 212 v) xT 212 true).run Tryz.prog w = .ok (.tuple #[v, .bool true]) w := by kernel_rfl
theorem taFunApp (v : Value) (xT : TypeId) (w : World) : (Instr.typeAssert (.iface 212 v) xT 261 true).run Tryz.prog w = .ok (.tuple #[.pointer none, .bool false]) w := by kernel_rfl
theorem taFunPair (v : Value) (xT : TypeId) (w : World) : (Instr.typeAssert (.iface 212 v) xT 254 true).run Tryz.prog w = .ok (.tuple #[.pointer none, .bool false]) w := by kernel_rfl
theorem taFunLet (v : Value) (xT : TypeId) (w : World) : (Instr.typeAssert (.iface 212 v) xT 215 true).run Tryz.prog w = .ok (.tuple #[.pointer none, .bool false]) w := by kernel_rfl
theorem taFunRec (v : Value) (xT : TypeId) (w : World) : (Instr.typeAssert (.iface 212 v) xT 218 true).run Tryz.prog w = .ok (.tuple #[.pointer none, .bool false]) w := by kernel_rfl
theorem taFunIf (v : Value) (xT : TypeId) (w : World) : (Instr.typeAssert (.iface 212 v) xT 257 true).run Tryz.prog w = .ok (.tuple #[.pointer none, .bool false]) w := by kernel_rfl
theorem taAppName (v : Value) (xT : TypeId) (w : World) : (Instr.typeAssert (.iface 261 v) xT 207 true).run Tryz.prog w = .ok (.tuple #[.pointer none, .bool false]) w := by kernel_rfl
theorem taAppNum (v : Value) (xT : TypeId) (w : World) : (Instr.typeAssert (.iface 261 v) xT 251 true).run Tryz.prog w = .ok (.tuple #[.pointer none, .bool false]) w := by kernel_rfl
theorem taAppFun (v : Value) (xT : TypeId) (w : World) : (Instr.typeAssert (.iface 261 v) xT 212 true).run Tryz.prog w = .ok (.tuple #[.pointer none, .bool false]) w := by kernel_rfl
theorem taAppApp (v : Value) (xT : TypeId) (w : World) : (Instr.typeAssert (.iface 261 v) xT 261 true).run Tryz.prog w = .ok (.tuple #[v, .bool true]) w := by kernel_rfl
theorem taAppPair (v : Value) (xT : TypeId) (w : World) : (Instr.typeAssert (.iface 261 v) xT 254 true).run Tryz.prog w = .ok (.tuple #[.pointer none, .bool false]) w := by kernel_rfl
theorem taAppLet (v : Value) (xT : TypeId) (w : World) : (Instr.typeAssert (.iface 261 v) xT 215 true).run Tryz.prog w = .ok (.tuple #[.pointer none, .bool false]) w := by kernel_rfl
theorem taAppRec (v : Value) (xT : TypeId) (w : World) : (Instr.typeAssert (.iface 261 v) xT 218 true).run Tryz.prog w = .ok (.tuple #[.pointer none, .bool false]) w := by kernel_rfl
theorem taAppIf (v : Value) (xT : TypeId) (w : World) : (Instr.typeAssert (.iface 261 v) xT 257 true).run Tryz.prog w = .ok (.tuple #[.pointer none, .bool false]) w := by kernel_rfl
theorem taPairName (v : Value) (xT : TypeId) (w : World) : (Instr.typeAssert (.iface 254 v) xT 207 true).run Tryz.prog w = .ok (.tuple #[.pointer none, .bool false]) w := by kernel_rfl
theorem taPairNum (v : Value) (xT : TypeId) (w : World) : (Instr.typeAssert (.iface 254 v) xT 251 true).run Tryz.prog w = .ok (.tuple #[.pointer none, .bool false]) w := by kernel_rfl
theorem taPairFun (v : Value) (xT : TypeId) (w : World) : (Instr.typeAssert (.iface 254 v) xT 212 true).run Tryz.prog w = .ok (.tuple #[.pointer none, .bool false]) w := by kernel_rfl
theorem taPairApp (v : Value) (xT : TypeId) (w : World) : (Instr.typeAssert (.iface 254 v) xT 261 true).run Tryz.prog w = .ok (.tuple #[.pointer none, .bool false]) w := by kernel_rfl
theorem taPairPair (v : Value) (xT : TypeId) (w : World) : (Instr.typeAssert (.iface 254 v) xT 254 true).run Tryz.prog w = .ok (.tuple #[v, .bool true]) w := by kernel_rfl
theorem taPairLet (v : Value) (xT : TypeId) (w : World) : (Instr.typeAssert (.iface 254 v) xT 215 true).run Tryz.prog w = .ok (.tuple #[.pointer none, .bool false]) w := by kernel_rfl
theorem taPairRec (v : Value) (xT : TypeId) (w : World) : (Instr.typeAssert (.iface 254 v) xT 218 true).run Tryz.prog w = .ok (.tuple #[.pointer none, .bool false]) w := by kernel_rfl
theorem taPairIf (v : Value) (xT : TypeId) (w : World) : (Instr.typeAssert (.iface 254 v) xT 257 true).run Tryz.prog w = .ok (.tuple #[.pointer none, .bool false]) w := by kernel_rfl
theorem taLetName (v : Value) (xT : TypeId) (w : World) : (Instr.typeAssert (.iface 215 v) xT 207 true).run Tryz.prog w = .ok (.tuple #[.pointer none, .bool false]) w := by kernel_rfl
theorem taLetNum (v : Value) (xT : TypeId) (w : World) : (Instr.typeAssert (.iface 215 v) xT 251 true).run Tryz.prog w = .ok (.tuple #[.pointer none, .bool false]) w := by kernel_rfl
theorem taLetFun (v : Value) (xT : TypeId) (w : World) : (Instr.typeAssert (.iface 215 v) xT 212 true).run Tryz.prog w = .ok (.tuple #[.pointer none, .bool false]) w := by kernel_rfl
theorem taLetApp (v : Value) (xT : TypeId) (w : World) : (Instr.typeAssert (.iface 215 v) xT 261 true).run Tryz.prog w = .ok (.tuple #[.pointer none, .bool false]) w := by kernel_rfl
theorem taLetPair (v : Value) (xT : TypeId) (w : World) : (Instr.typeAssert (.iface 215 v) xT 254 true).run Tryz.prog w = .ok (.tuple #[.pointer none, .bool false]) w := by kernel_rfl
theorem taLetLet (v : Value) (xT : TypeId) (w : World) : (Instr.typeAssert (.iface 215 v) xT 215 true).run Tryz.prog w = .ok (.tuple #[v, .bool true]) w := by kernel_rfl
theorem taLetRec (v : Value) (xT : TypeId) (w : World) : (Instr.typeAssert (.iface 215 v) xT 218 true).run Tryz.prog w = .ok (.tuple #[.pointer none, .bool false]) w := by kernel_rfl
theorem taLetIf (v : Value) (xT : TypeId) (w : World) : (Instr.typeAssert (.iface 215 v) xT 257 true).run Tryz.prog w = .ok (.tuple #[.pointer none, .bool false]) w := by kernel_rfl
theorem taRecName (v : Value) (xT : TypeId) (w : World) : (Instr.typeAssert (.iface 218 v) xT 207 true).run Tryz.prog w = .ok (.tuple #[.pointer none, .bool false]) w := by kernel_rfl
theorem taRecNum (v : Value) (xT : TypeId) (w : World) : (Instr.typeAssert (.iface 218 v) xT 251 true).run Tryz.prog w = .ok (.tuple #[.pointer none, .bool false]) w := by kernel_rfl
theorem taRecFun (v : Value) (xT : TypeId) (w : World) : (Instr.typeAssert (.iface 218 v) xT 212 true).run Tryz.prog w = .ok (.tuple #[.pointer none, .bool false]) w := by kernel_rfl
theorem taRecApp (v : Value) (xT : TypeId) (w : World) : (Instr.typeAssert (.iface 218 v) xT 261 true).run Tryz.prog w = .ok (.tuple #[.pointer none, .bool false]) w := by kernel_rfl
theorem taRecPair (v : Value) (xT : TypeId) (w : World) : (Instr.typeAssert (.iface 218 v) xT 254 true).run Tryz.prog w = .ok (.tuple #[.pointer none, .bool false]) w := by kernel_rfl
theorem taRecLet (v : Value) (xT : TypeId) (w : World) : (Instr.typeAssert (.iface 218 v) xT 215 true).run Tryz.prog w = .ok (.tuple #[.pointer none, .bool false]) w := by kernel_rfl
theorem taRecRec (v : Value) (xT : TypeId) (w : World) : (Instr.typeAssert (.iface 218 v) xT 218 true).run Tryz.prog w = .ok (.tuple #[v, .bool true]) w := by kernel_rfl
theorem taRecIf (v : Value) (xT : TypeId) (w : World) : (Instr.typeAssert (.iface 218 v) xT 257 true).run Tryz.prog w = .ok (.tuple #[.pointer none, .bool false]) w := by kernel_rfl
theorem taIfName (v : Value) (xT : TypeId) (w : World) : (Instr.typeAssert (.iface 257 v) xT 207 true).run Tryz.prog w = .ok (.tuple #[.pointer none, .bool false]) w := by kernel_rfl
theorem taIfNum (v : Value) (xT : TypeId) (w : World) : (Instr.typeAssert (.iface 257 v) xT 251 true).run Tryz.prog w = .ok (.tuple #[.pointer none, .bool false]) w := by kernel_rfl
theorem taIfFun (v : Value) (xT : TypeId) (w : World) : (Instr.typeAssert (.iface 257 v) xT 212 true).run Tryz.prog w = .ok (.tuple #[.pointer none, .bool false]) w := by kernel_rfl
theorem taIfApp (v : Value) (xT : TypeId) (w : World) : (Instr.typeAssert (.iface 257 v) xT 261 true).run Tryz.prog w = .ok (.tuple #[.pointer none, .bool false]) w := by kernel_rfl
theorem taIfPair (v : Value) (xT : TypeId) (w : World) : (Instr.typeAssert (.iface 257 v) xT 254 true).run Tryz.prog w = .ok (.tuple #[.pointer none, .bool false]) w := by kernel_rfl
theorem taIfLet (v : Value) (xT : TypeId) (w : World) : (Instr.typeAssert (.iface 257 v) xT 215 true).run Tryz.prog w = .ok (.tuple #[.pointer none, .bool false]) w := by kernel_rfl
theorem taIfRec (v : Value) (xT : TypeId) (w : World) : (Instr.typeAssert (.iface 257 v) xT 218 true).run Tryz.prog w = .ok (.tuple #[.pointer none, .bool false]) w := by kernel_rfl
theorem taIfIf (v : Value) (xT : TypeId) (w : World) : (Instr.typeAssert (.iface 257 v) xT 257 true).run Tryz.prog w = .ok (.tuple #[v, .bool true]) w := by kernel_rfl
end Go.Proofs.YtpbplpnifjbkoabGreatDoor

/-
  errors.Is at the program's errors, by contracts (after the guide's worked sentry). Printed by gen_is.py.
-/
import Derived.Test.YtpbplpnifjbkoabGreatDoorErrs
namespace Go.Proofs.YtpbplpnifjbkoabGreatDoor
open Go.RowKit Go.Extern.Stop Go.Stop Go.Extern

theorem is_same (a : Addr) (w : World) :
    Calls Tryz.prog 60 #[.iface 354 (.pointer (some a)), .iface 354 (.pointer (some a))] w fun e w' => e = .returned (.bool true) ∧ w = w' := by
  obtain ⟨i, hi, hcmp⟩ := Option.map_eq_some_iff.1 compStr
  obtain ⟨j, hj, hjs⟩ := Option.map_eq_some_iff.1 sizeStr
  have hjs : j.size ≠ 0 := by simpa using hjs
  have x105 := @run_callFunc_extern Tryz.prog 105 _ Extern.ReflectliteType.typeOf Tryz.func105 (by kernel_rfl) (by kernel_rfl) (by kernel_rfl) (by kernel_rfl)
  have x229 := @run_callFunc_extern Tryz.prog 229 _ cmpEntry Tryz.func229 (by kernel_rfl) (by kernel_rfl) (by kernel_rfl) (by kernel_rfl)
  have tT := typeOfStr
  have cT := comparableStr
  have mR := mComparable
  have heq := run_eql_iface_ptr_same (P := Tryz.prog) w a Tryz.underlying61 Tryz.underlying354 hi hcmp hj
  go_enter Tryz.func60, Tryz.ntmps60
  go_wp2
  refine wp_loop_rounds 1 ?_
  rw [rounds_succ]
  go_wp2
  go_ret
  exact ⟨rfl, rfl⟩
theorem is_other (a b : Addr) (ca cb : Array Value) (ta tb : TypeId) (w : World) (hne : a ≠ b) (ha : w.heap[a.block]? = some (.cells ca ta (0, 0))) (hb : w.heap[b.block]? = some (.cells cb tb (0, 0))) :
    Calls Tryz.prog 60 #[.iface 354 (.pointer (some a)), .iface 354 (.pointer (some b))] w fun e w' => e = .returned (.bool false) ∧ w = w' := by
  obtain ⟨i, hi, hcmp⟩ := Option.map_eq_some_iff.1 compStr
  obtain ⟨j, hj, hjs⟩ := Option.map_eq_some_iff.1 sizeStr
  have hjs : j.size ≠ 0 := by simpa using hjs
  have x105 := @run_callFunc_extern Tryz.prog 105 _ Extern.ReflectliteType.typeOf Tryz.func105 (by kernel_rfl) (by kernel_rfl) (by kernel_rfl) (by kernel_rfl)
  have x229 := @run_callFunc_extern Tryz.prog 229 _ cmpEntry Tryz.func229 (by kernel_rfl) (by kernel_rfl) (by kernel_rfl) (by kernel_rfl)
  have tT := typeOfStr
  have cT := comparableStr
  have mR := mComparable
  have nE := noIsStr
  have uE := noUnwrapStr
  have vE := noUnwrapsStr
  have heq := run_eql_iface_ptr_other (P := Tryz.prog) w Tryz.underlying61 Tryz.underlying354 hi hcmp hj hjs hne ha hb
  go_enter Tryz.func60, Tryz.ntmps60
  go_wp2
  refine wp_loop_rounds 1 ?_
  rw [rounds_succ]
  go_wp2
  go_ret
  exact ⟨rfl, rfl⟩
theorem is_env_same (pb po : Nat) (b : Addr) (w : World) (h1 : w.cell? ⟨pb, po + 1, none⟩ = some (.iface 354 (.pointer (some b)))) :
    Calls Tryz.prog 60 #[.iface 137 (.pointer (some ⟨pb, po, none⟩)), .iface 354 (.pointer (some b))] w fun e w' => e = .returned (.bool true) ∧ w = w' := by
  obtain ⟨i, hi, hcmp⟩ := Option.map_eq_some_iff.1 compStr
  obtain ⟨j, hj, hjs⟩ := Option.map_eq_some_iff.1 sizeStr
  have hjs : j.size ≠ 0 := by simpa using hjs
  have x105 := @run_callFunc_extern Tryz.prog 105 _ Extern.ReflectliteType.typeOf Tryz.func105 (by kernel_rfl) (by kernel_rfl) (by kernel_rfl) (by kernel_rfl)
  have x229 := @run_callFunc_extern Tryz.prog 229 _ cmpEntry Tryz.func229 (by kernel_rfl) (by kernel_rfl) (by kernel_rfl) (by kernel_rfl)
  have tT := typeOfStr
  have cT := comparableStr
  have mR := mComparable
  have nW := noIsEnv
  have uW := hasUnwrapEnv
  have mU := mUnwrap
  have heq := run_eql_iface_ptr_same (P := Tryz.prog) w b Tryz.underlying61 Tryz.underlying354 hi hcmp hj
  have hty := run_eql_iface_types (P := Tryz.prog) 137 354 (.pointer (some ⟨pb, po, none⟩)) (.pointer (some b)) Tryz.underlying61 (by decide) w
  go_enter Tryz.func60, Tryz.ntmps60
  go_wp2
  refine wp_loop_rounds 2 ?_
  rw [rounds_succ]
  go_wp2
  rw [rounds_succ]
  go_wp2
  go_ret
  exact ⟨rfl, rfl⟩
theorem is_env_other (pb po : Nat) (b a : Addr) (ca cb : Array Value) (ta tb : TypeId) (w : World) (h1 : w.cell? ⟨pb, po + 1, none⟩ = some (.iface 354 (.pointer (some a)))) (hne : a ≠ b) (ha : w.heap[a.block]? = some (.cells ca ta (0, 0))) (hb : w.heap[b.block]? = some (.cells cb tb (0, 0))) :
    Calls Tryz.prog 60 #[.iface 137 (.pointer (some ⟨pb, po, none⟩)), .iface 354 (.pointer (some b))] w fun e w' => e = .returned (.bool false) ∧ w = w' := by
  obtain ⟨i, hi, hcmp⟩ := Option.map_eq_some_iff.1 compStr
  obtain ⟨j, hj, hjs⟩ := Option.map_eq_some_iff.1 sizeStr
  have hjs : j.size ≠ 0 := by simpa using hjs
  have x105 := @run_callFunc_extern Tryz.prog 105 _ Extern.ReflectliteType.typeOf Tryz.func105 (by kernel_rfl) (by kernel_rfl) (by kernel_rfl) (by kernel_rfl)
  have x229 := @run_callFunc_extern Tryz.prog 229 _ cmpEntry Tryz.func229 (by kernel_rfl) (by kernel_rfl) (by kernel_rfl) (by kernel_rfl)
  have tT := typeOfStr
  have cT := comparableStr
  have mR := mComparable
  have nE := noIsStr
  have uE := noUnwrapStr
  have vE := noUnwrapsStr
  have nW := noIsEnv
  have uW := hasUnwrapEnv
  have mU := mUnwrap
  have heq := run_eql_iface_ptr_other (P := Tryz.prog) w Tryz.underlying61 Tryz.underlying354 hi hcmp hj hjs hne ha hb
  have hty := run_eql_iface_types (P := Tryz.prog) 137 354 (.pointer (some ⟨pb, po, none⟩)) (.pointer (some b)) Tryz.underlying61 (by decide) w
  go_enter Tryz.func60, Tryz.ntmps60
  go_wp2
  refine wp_loop_rounds 2 ?_
  rw [rounds_succ]
  go_wp2
  rw [rounds_succ]
  go_wp2
  go_ret
  exact ⟨rfl, rfl⟩
theorem is_env_syn (pb po : Nat) (b : Addr) (w : World) (h1 : w.cell? ⟨pb, po + 1, none⟩ = some (.iface 135 (.pointer (some b)))) :
    Calls Tryz.prog 60 #[.iface 137 (.pointer (some ⟨pb, po, none⟩)), .iface 135 (.pointer (some b))] w fun e w' => e = .returned (.bool true) ∧ w = w' := by
  obtain ⟨i, hi, hcmp⟩ := Option.map_eq_some_iff.1 compSyn
  obtain ⟨j, hj, hjs⟩ := Option.map_eq_some_iff.1 sizeSyn
  have hjs : j.size ≠ 0 := by simpa using hjs
  have x105 := @run_callFunc_extern Tryz.prog 105 _ Extern.ReflectliteType.typeOf Tryz.func105 (by kernel_rfl) (by kernel_rfl) (by kernel_rfl) (by kernel_rfl)
  have x229 := @run_callFunc_extern Tryz.prog 229 _ cmpEntry Tryz.func229 (by kernel_rfl) (by kernel_rfl) (by kernel_rfl) (by kernel_rfl)
  have tT := typeOfSyn
  have cT := comparableSyn
  have mR := mComparable
  have nW := noIsEnv
  have uW := hasUnwrapEnv
  have mU := mUnwrap
  have heq := run_eql_iface_ptr_same (P := Tryz.prog) w b Tryz.underlying61 Tryz.underlying135 hi hcmp hj
  have hty := run_eql_iface_types (P := Tryz.prog) 137 135 (.pointer (some ⟨pb, po, none⟩)) (.pointer (some b)) Tryz.underlying61 (by decide) w
  go_enter Tryz.func60, Tryz.ntmps60
  go_wp2
  refine wp_loop_rounds 2 ?_
  rw [rounds_succ]
  go_wp2
  rw [rounds_succ]
  go_wp2
  go_ret
  exact ⟨rfl, rfl⟩
end Go.Proofs.YtpbplpnifjbkoabGreatDoor

/-
  errors.Is at the program's errors, by contracts (after the guide's worked sentry). Printed by gen_is.py.
-/
import Derived.Test.YtpbplpnifjbkoaaDoorErrs
namespace Go.Proofs.YtpbplpnifjbkoaaDoor
open Go.RowKit Go.Extern.Stop Go.Stop Go.Extern

theorem is_same (a : Addr) (w : World) :
    Calls Tryd.prog 19 #[.iface 265 (.pointer (some a)), .iface 265 (.pointer (some a))] w fun e w' => e = .returned (.bool true) ∧ w = w' := by
  obtain ⟨i, hi, hcmp⟩ := Option.map_eq_some_iff.1 compStr
  obtain ⟨j, hj, hjs⟩ := Option.map_eq_some_iff.1 sizeStr
  have hjs : j.size ≠ 0 := by simpa using hjs
  have x38 := @run_callFunc_extern Tryd.prog 38 _ Extern.ReflectliteType.typeOf Tryd.func38 (by kernel_rfl) (by kernel_rfl) (by kernel_rfl) (by kernel_rfl)
  have x161 := @run_callFunc_extern Tryd.prog 161 _ cmpEntry Tryd.func161 (by kernel_rfl) (by kernel_rfl) (by kernel_rfl) (by kernel_rfl)
  have tT := typeOfStr
  have cT := comparableStr
  have mR := mComparable
  have heq := run_eql_iface_ptr_same (P := Tryd.prog) w a Tryd.underlying52 Tryd.underlying265 hi hcmp hj
  go_enter Tryd.func19, Tryd.ntmps19
  go_wp2
  refine wp_loop_rounds 1 ?_
  rw [rounds_succ]
  go_wp2
  go_ret
  exact ⟨rfl, rfl⟩
theorem is_other (a b : Addr) (ca cb : Array Value) (ta tb : TypeId) (w : World) (hne : a ≠ b) (ha : w.heap[a.block]? = some (.cells ca ta (0, 0))) (hb : w.heap[b.block]? = some (.cells cb tb (0, 0))) :
    Calls Tryd.prog 19 #[.iface 265 (.pointer (some a)), .iface 265 (.pointer (some b))] w fun e w' => e = .returned (.bool false) ∧ w = w' := by
  obtain ⟨i, hi, hcmp⟩ := Option.map_eq_some_iff.1 compStr
  obtain ⟨j, hj, hjs⟩ := Option.map_eq_some_iff.1 sizeStr
  have hjs : j.size ≠ 0 := by simpa using hjs
  have x38 := @run_callFunc_extern Tryd.prog 38 _ Extern.ReflectliteType.typeOf Tryd.func38 (by kernel_rfl) (by kernel_rfl) (by kernel_rfl) (by kernel_rfl)
  have x161 := @run_callFunc_extern Tryd.prog 161 _ cmpEntry Tryd.func161 (by kernel_rfl) (by kernel_rfl) (by kernel_rfl) (by kernel_rfl)
  have tT := typeOfStr
  have cT := comparableStr
  have mR := mComparable
  have nE := noIsStr
  have uE := noUnwrapStr
  have vE := noUnwrapsStr
  have heq := run_eql_iface_ptr_other (P := Tryd.prog) w Tryd.underlying52 Tryd.underlying265 hi hcmp hj hjs hne ha hb
  go_enter Tryd.func19, Tryd.ntmps19
  go_wp2
  refine wp_loop_rounds 1 ?_
  rw [rounds_succ]
  go_wp2
  go_ret
  exact ⟨rfl, rfl⟩
theorem is_env_same (pb po : Nat) (b : Addr) (w : World) (h1 : w.cell? ⟨pb, po + 1, none⟩ = some (.iface 265 (.pointer (some b)))) :
    Calls Tryd.prog 19 #[.iface 54 (.pointer (some ⟨pb, po, none⟩)), .iface 265 (.pointer (some b))] w fun e w' => e = .returned (.bool true) ∧ w = w' := by
  obtain ⟨i, hi, hcmp⟩ := Option.map_eq_some_iff.1 compStr
  obtain ⟨j, hj, hjs⟩ := Option.map_eq_some_iff.1 sizeStr
  have hjs : j.size ≠ 0 := by simpa using hjs
  have x38 := @run_callFunc_extern Tryd.prog 38 _ Extern.ReflectliteType.typeOf Tryd.func38 (by kernel_rfl) (by kernel_rfl) (by kernel_rfl) (by kernel_rfl)
  have x161 := @run_callFunc_extern Tryd.prog 161 _ cmpEntry Tryd.func161 (by kernel_rfl) (by kernel_rfl) (by kernel_rfl) (by kernel_rfl)
  have tT := typeOfStr
  have cT := comparableStr
  have mR := mComparable
  have nW := noIsEnv
  have uW := hasUnwrapEnv
  have mU := mUnwrap
  have heq := run_eql_iface_ptr_same (P := Tryd.prog) w b Tryd.underlying52 Tryd.underlying265 hi hcmp hj
  have hty := run_eql_iface_types (P := Tryd.prog) 54 265 (.pointer (some ⟨pb, po, none⟩)) (.pointer (some b)) Tryd.underlying52 (by decide) w
  go_enter Tryd.func19, Tryd.ntmps19
  go_wp2
  refine wp_loop_rounds 2 ?_
  rw [rounds_succ]
  go_wp2
  rw [rounds_succ]
  go_wp2
  go_ret
  exact ⟨rfl, rfl⟩
theorem is_env_other (pb po : Nat) (b a : Addr) (ca cb : Array Value) (ta tb : TypeId) (w : World) (h1 : w.cell? ⟨pb, po + 1, none⟩ = some (.iface 265 (.pointer (some a)))) (hne : a ≠ b) (ha : w.heap[a.block]? = some (.cells ca ta (0, 0))) (hb : w.heap[b.block]? = some (.cells cb tb (0, 0))) :
    Calls Tryd.prog 19 #[.iface 54 (.pointer (some ⟨pb, po, none⟩)), .iface 265 (.pointer (some b))] w fun e w' => e = .returned (.bool false) ∧ w = w' := by
  obtain ⟨i, hi, hcmp⟩ := Option.map_eq_some_iff.1 compStr
  obtain ⟨j, hj, hjs⟩ := Option.map_eq_some_iff.1 sizeStr
  have hjs : j.size ≠ 0 := by simpa using hjs
  have x38 := @run_callFunc_extern Tryd.prog 38 _ Extern.ReflectliteType.typeOf Tryd.func38 (by kernel_rfl) (by kernel_rfl) (by kernel_rfl) (by kernel_rfl)
  have x161 := @run_callFunc_extern Tryd.prog 161 _ cmpEntry Tryd.func161 (by kernel_rfl) (by kernel_rfl) (by kernel_rfl) (by kernel_rfl)
  have tT := typeOfStr
  have cT := comparableStr
  have mR := mComparable
  have nE := noIsStr
  have uE := noUnwrapStr
  have vE := noUnwrapsStr
  have nW := noIsEnv
  have uW := hasUnwrapEnv
  have mU := mUnwrap
  have heq := run_eql_iface_ptr_other (P := Tryd.prog) w Tryd.underlying52 Tryd.underlying265 hi hcmp hj hjs hne ha hb
  have hty := run_eql_iface_types (P := Tryd.prog) 54 265 (.pointer (some ⟨pb, po, none⟩)) (.pointer (some b)) Tryd.underlying52 (by decide) w
  go_enter Tryd.func19, Tryd.ntmps19
  go_wp2
  refine wp_loop_rounds 2 ?_
  rw [rounds_succ]
  go_wp2
  rw [rounds_succ]
  go_wp2
  go_ret
  exact ⟨rfl, rfl⟩
theorem is_env_syn (pb po : Nat) (b : Addr) (w : World) (h1 : w.cell? ⟨pb, po + 1, none⟩ = some (.iface 58 (.pointer (some b)))) :
    Calls Tryd.prog 19 #[.iface 54 (.pointer (some ⟨pb, po, none⟩)), .iface 58 (.pointer (some b))] w fun e w' => e = .returned (.bool true) ∧ w = w' := by
  obtain ⟨i, hi, hcmp⟩ := Option.map_eq_some_iff.1 compSyn
  obtain ⟨j, hj, hjs⟩ := Option.map_eq_some_iff.1 sizeSyn
  have hjs : j.size ≠ 0 := by simpa using hjs
  have x38 := @run_callFunc_extern Tryd.prog 38 _ Extern.ReflectliteType.typeOf Tryd.func38 (by kernel_rfl) (by kernel_rfl) (by kernel_rfl) (by kernel_rfl)
  have x161 := @run_callFunc_extern Tryd.prog 161 _ cmpEntry Tryd.func161 (by kernel_rfl) (by kernel_rfl) (by kernel_rfl) (by kernel_rfl)
  have tT := typeOfSyn
  have cT := comparableSyn
  have mR := mComparable
  have nW := noIsEnv
  have uW := hasUnwrapEnv
  have mU := mUnwrap
  have heq := run_eql_iface_ptr_same (P := Tryd.prog) w b Tryd.underlying52 Tryd.underlying58 hi hcmp hj
  have hty := run_eql_iface_types (P := Tryd.prog) 54 58 (.pointer (some ⟨pb, po, none⟩)) (.pointer (some b)) Tryd.underlying52 (by decide) w
  go_enter Tryd.func19, Tryd.ntmps19
  go_wp2
  refine wp_loop_rounds 2 ?_
  rw [rounds_succ]
  go_wp2
  rw [rounds_succ]
  go_wp2
  go_ret
  exact ⟨rfl, rfl⟩
end Go.Proofs.YtpbplpnifjbkoaaDoor

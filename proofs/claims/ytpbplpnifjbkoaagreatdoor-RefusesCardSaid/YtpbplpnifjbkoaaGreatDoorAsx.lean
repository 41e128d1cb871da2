/-
  errors.As at the targets of package plain, by contracts (after the guide's worked toyas). Printed by gen_as.py.
-/
import Derived.Test.YtpbplpnifjbkoaaGreatDoorErrs
namespace Go.Proofs.YtpbplpnifjbkoaaGreatDoor
open Go.RowKit Go.Extern.Stop Go.Stop Go.Extern


theorem as_nilEnv (t : Value) (w : World) :
    Calls Tryz.prog 65 #[.nilIface, t] w fun e w' => e = .returned (.bool false) ∧ w = w' := by
  go_enter Tryz.func65, Tryz.ntmps65
  go_wp2
  go_ret
  exact ⟨rfl, rfl⟩
set_option maxHeartbeats 4000000 in
theorem as_hitEnv (e t : Addr) (old : Value) (w : World) (hg : w.cell? ⟨8, 0, none⟩ = some (.iface 294 (.agg #[.pointer (some ⟨13, 67, none⟩)]))) (ht0 : w.cell? t = some old) (hf0 : w.frozen? t = false) :
    Calls Tryz.prog 65 #[.iface 135 (.pointer (some e)), .iface 137 (.pointer (some t))] w fun ev w' => ev = .returned (.bool true) ∧ ((((w.alloc (.cells #[.pointer (some t)] 137)).alloc (.cells #[.pointer (some ⟨13, 137, none⟩), .pointer (some ⟨w.heap.size, 0, none⟩), .int .u64 150] 242)).alloc (.cells #[.pointer (some ⟨13, 137, none⟩), .pointer (some ⟨w.heap.size, 0, none⟩), .int .u64 150] 242)).alloc (.cells #[.pointer (some e)] 135)).setCell t (.pointer (some e)) = w' := by
  have x109 := @run_callFunc_extern Tryz.prog 109 _ (fun args => ReflectliteValue.unpack (args.getD 0 (.tuple #[]))) Tryz.func109 (by kernel_rfl) (by kernel_rfl) (by kernel_rfl) (by kernel_rfl)
  have x110 := @run_callFunc_extern Tryz.prog 110 _ (ReflectliteValue.methodAny (ReflectliteValue.valueError "reflectlite.Value.Type" 0) (fun t _ _ _ => ReflectliteType.toType t)) Tryz.func110 (by kernel_rfl) (by kernel_rfl) (by kernel_rfl) (by kernel_rfl)
  have x111 := @run_callFunc_extern Tryz.prog 111 _ (ReflectliteValue.method (ReflectliteValue.valueError "reflectlite.Value.IsNil" 0) ReflectliteValue.isNil) Tryz.func111 (by kernel_rfl) (by kernel_rfl) (by kernel_rfl) (by kernel_rfl)
  have x225 := @run_callFunc_extern Tryz.prog 225 _ (ReflectliteType.abiMethod fun t => do pure (.int .u8 (← Rtype.kind t))) Tryz.func225 (by kernel_rfl) (by kernel_rfl) (by kernel_rfl) (by kernel_rfl)
  have x241 := @run_callFunc_extern Tryz.prog 241 _ (ReflectliteType.method ReflectliteType.elem) Tryz.func241 (by kernel_rfl) (by kernel_rfl) (by kernel_rfl) (by kernel_rfl)
  have x242 := @run_callFunc_extern Tryz.prog 242 _ (ReflectliteType.relation "Implements" ReflectliteType.implements_) Tryz.func242 (by kernel_rfl) (by kernel_rfl) (by kernel_rfl) (by kernel_rfl)
  have x113 := @run_callFunc_extern Tryz.prog 113 _ (ReflectliteType.typeOf) Tryz.func113 (by kernel_rfl) (by kernel_rfl) (by kernel_rfl) (by kernel_rfl)
  have x239 := @run_callFunc_extern Tryz.prog 239 _ (ReflectliteType.relation "AssignableTo" ReflectliteType.assignableTo) Tryz.func239 (by kernel_rfl) (by kernel_rfl) (by kernel_rfl) (by kernel_rfl)
  have x147 := @run_callFunc_extern Tryz.prog 147 _ (ReflectliteValue.method (ReflectliteValue.valueError "reflectlite.Value.Elem" 0) ReflectliteValue.elem) Tryz.func147 (by kernel_rfl) (by kernel_rfl) (by kernel_rfl) (by kernel_rfl)
  have x148 := @run_callFunc_extern Tryz.prog 148 _ (ReflectliteValue.set) Tryz.func148 (by kernel_rfl) (by kernel_rfl) (by kernel_rfl) (by kernel_rfl)
  have tO := typeOfEnv
  have a25 := asgEnvEnv
  have v25 := valueOfEEnv
  have f6 := valueOfTEnv
  have f7 := typeTEnv
  have mK := mKind
  have mE := mElem
  have mI := mImplements
  have mA := mAssignableTo
  have k27 := kindTEnv
  have k25 := kindEEnv
  have e27 := elemTEnv
  have i25 := implementsEnv
  have n8 := isNilTEnv ⟨w.heap.size, 0, none⟩ t ((w.alloc (.cells #[.pointer (some t)] 137)).alloc (.cells #[.pointer (some ⟨13, 137, none⟩), .pointer (some ⟨w.heap.size, 0, none⟩), .int .u64 150] 242)) (by simp)
  have hlt : 8 < w.heap.size := by
    rcases Nat.lt_or_ge 8 w.heap.size with h | h
    · exact h
    · simp [World.cell?, Array.getElem?_eq_none h] at hg
  have hg2 : ((w.alloc (.cells #[.pointer (some t)] 137)).alloc (.cells #[.pointer (some ⟨13, 137, none⟩), .pointer (some ⟨w.heap.size, 0, none⟩), .int .u64 150] 242)).cell? ⟨8, 0, none⟩ = some (.iface 294 (.agg #[.pointer (some ⟨13, 67, none⟩)])) := by
    rw [World.cell?_alloc_lt _ _ ⟨8, 0, none⟩ (by simp; omega), World.cell?_alloc_lt _ _ ⟨8, 0, none⟩ hlt]; exact hg
  have htl : t.block < w.heap.size := by
    rcases Nat.lt_or_ge t.block w.heap.size with h | h
    · exact h
    · simp [World.cell?, Array.getElem?_eq_none h] at ht0
  have el := elemVEnv ⟨w.heap.size, 0, none⟩ t (((w.alloc (.cells #[.pointer (some t)] 137)).alloc (.cells #[.pointer (some ⟨13, 137, none⟩), .pointer (some ⟨w.heap.size, 0, none⟩), .int .u64 150] 242)).alloc (.cells #[.pointer (some ⟨13, 137, none⟩), .pointer (some ⟨w.heap.size, 0, none⟩), .int .u64 150] 242)) (by rw [World.cell?_alloc_lt _ _ ⟨w.heap.size, 0, none⟩ (by simp; omega)]; simp)
  have st := setEnv t ⟨w.heap.size + 1 + 1 + 1, 0, none⟩ e old ((((w.alloc (.cells #[.pointer (some t)] 137)).alloc (.cells #[.pointer (some ⟨13, 137, none⟩), .pointer (some ⟨w.heap.size, 0, none⟩), .int .u64 150] 242)).alloc (.cells #[.pointer (some ⟨13, 137, none⟩), .pointer (some ⟨w.heap.size, 0, none⟩), .int .u64 150] 242)).alloc (.cells #[.pointer (some e)] 135))
    (by rw [World.cell?_alloc_at _ _ _ _ (by simp)]; rfl)
    (by rw [World.cell?_alloc_lt _ _ t (by simp; omega), World.cell?_alloc_lt _ _ t (by simp; omega), World.cell?_alloc_lt _ _ t (by simp; omega), World.cell?_alloc_lt _ _ t htl]; exact ht0)
    (by rw [World.frozen?_alloc_old _ _ t (by simp; omega), World.frozen?_alloc_old _ _ t (by simp; omega), World.frozen?_alloc_old _ _ t (by simp; omega), World.frozen?_alloc_old _ _ t (Nat.ne_of_lt htl)]; exact hf0)
  go_enter Tryz.func65, Tryz.ntmps65
  go_wp2
  refine wp_loop_rounds 1 ?_
  rw [rounds_succ]
  go_wp2
  go_ret
  exact ⟨rfl, rfl⟩

theorem as_nilSyn (t : Value) (w : World) :
    Calls Tryz.prog 65 #[.nilIface, t] w fun e w' => e = .returned (.bool false) ∧ w = w' := by
  go_enter Tryz.func65, Tryz.ntmps65
  go_wp2
  go_ret
  exact ⟨rfl, rfl⟩
set_option maxHeartbeats 4000000 in
theorem as_hitSyn (e t : Addr) (old : Value) (w : World) (hg : w.cell? ⟨8, 0, none⟩ = some (.iface 294 (.agg #[.pointer (some ⟨13, 67, none⟩)]))) (ht0 : w.cell? t = some old) (hf0 : w.frozen? t = false) :
    Calls Tryz.prog 65 #[.iface 133 (.pointer (some e)), .iface 142 (.pointer (some t))] w fun ev w' => ev = .returned (.bool true) ∧ ((((w.alloc (.cells #[.pointer (some t)] 142)).alloc (.cells #[.pointer (some ⟨13, 142, none⟩), .pointer (some ⟨w.heap.size, 0, none⟩), .int .u64 150] 242)).alloc (.cells #[.pointer (some ⟨13, 142, none⟩), .pointer (some ⟨w.heap.size, 0, none⟩), .int .u64 150] 242)).alloc (.cells #[.pointer (some e)] 133)).setCell t (.pointer (some e)) = w' := by
  have x109 := @run_callFunc_extern Tryz.prog 109 _ (fun args => ReflectliteValue.unpack (args.getD 0 (.tuple #[]))) Tryz.func109 (by kernel_rfl) (by kernel_rfl) (by kernel_rfl) (by kernel_rfl)
  have x110 := @run_callFunc_extern Tryz.prog 110 _ (ReflectliteValue.methodAny (ReflectliteValue.valueError "reflectlite.Value.Type" 0) (fun t _ _ _ => ReflectliteType.toType t)) Tryz.func110 (by kernel_rfl) (by kernel_rfl) (by kernel_rfl) (by kernel_rfl)
  have x111 := @run_callFunc_extern Tryz.prog 111 _ (ReflectliteValue.method (ReflectliteValue.valueError "reflectlite.Value.IsNil" 0) ReflectliteValue.isNil) Tryz.func111 (by kernel_rfl) (by kernel_rfl) (by kernel_rfl) (by kernel_rfl)
  have x225 := @run_callFunc_extern Tryz.prog 225 _ (ReflectliteType.abiMethod fun t => do pure (.int .u8 (← Rtype.kind t))) Tryz.func225 (by kernel_rfl) (by kernel_rfl) (by kernel_rfl) (by kernel_rfl)
  have x241 := @run_callFunc_extern Tryz.prog 241 _ (ReflectliteType.method ReflectliteType.elem) Tryz.func241 (by kernel_rfl) (by kernel_rfl) (by kernel_rfl) (by kernel_rfl)
  have x242 := @run_callFunc_extern Tryz.prog 242 _ (ReflectliteType.relation "Implements" ReflectliteType.implements_) Tryz.func242 (by kernel_rfl) (by kernel_rfl) (by kernel_rfl) (by kernel_rfl)
  have x113 := @run_callFunc_extern Tryz.prog 113 _ (ReflectliteType.typeOf) Tryz.func113 (by kernel_rfl) (by kernel_rfl) (by kernel_rfl) (by kernel_rfl)
  have x239 := @run_callFunc_extern Tryz.prog 239 _ (ReflectliteType.relation "AssignableTo" ReflectliteType.assignableTo) Tryz.func239 (by kernel_rfl) (by kernel_rfl) (by kernel_rfl) (by kernel_rfl)
  have x147 := @run_callFunc_extern Tryz.prog 147 _ (ReflectliteValue.method (ReflectliteValue.valueError "reflectlite.Value.Elem" 0) ReflectliteValue.elem) Tryz.func147 (by kernel_rfl) (by kernel_rfl) (by kernel_rfl) (by kernel_rfl)
  have x148 := @run_callFunc_extern Tryz.prog 148 _ (ReflectliteValue.set) Tryz.func148 (by kernel_rfl) (by kernel_rfl) (by kernel_rfl) (by kernel_rfl)
  have tO := typeOfSyn
  have a25 := asgSynSyn
  have v25 := valueOfESyn
  have f6 := valueOfTSyn
  have f7 := typeTSyn
  have mK := mKind
  have mE := mElem
  have mI := mImplements
  have mA := mAssignableTo
  have k27 := kindTSyn
  have k25 := kindESyn
  have e27 := elemTSyn
  have i25 := implementsSyn
  have n8 := isNilTSyn ⟨w.heap.size, 0, none⟩ t ((w.alloc (.cells #[.pointer (some t)] 142)).alloc (.cells #[.pointer (some ⟨13, 142, none⟩), .pointer (some ⟨w.heap.size, 0, none⟩), .int .u64 150] 242)) (by simp)
  have hlt : 8 < w.heap.size := by
    rcases Nat.lt_or_ge 8 w.heap.size with h | h
    · exact h
    · simp [World.cell?, Array.getElem?_eq_none h] at hg
  have hg2 : ((w.alloc (.cells #[.pointer (some t)] 142)).alloc (.cells #[.pointer (some ⟨13, 142, none⟩), .pointer (some ⟨w.heap.size, 0, none⟩), .int .u64 150] 242)).cell? ⟨8, 0, none⟩ = some (.iface 294 (.agg #[.pointer (some ⟨13, 67, none⟩)])) := by
    rw [World.cell?_alloc_lt _ _ ⟨8, 0, none⟩ (by simp; omega), World.cell?_alloc_lt _ _ ⟨8, 0, none⟩ hlt]; exact hg
  have htl : t.block < w.heap.size := by
    rcases Nat.lt_or_ge t.block w.heap.size with h | h
    · exact h
    · simp [World.cell?, Array.getElem?_eq_none h] at ht0
  have el := elemVSyn ⟨w.heap.size, 0, none⟩ t (((w.alloc (.cells #[.pointer (some t)] 142)).alloc (.cells #[.pointer (some ⟨13, 142, none⟩), .pointer (some ⟨w.heap.size, 0, none⟩), .int .u64 150] 242)).alloc (.cells #[.pointer (some ⟨13, 142, none⟩), .pointer (some ⟨w.heap.size, 0, none⟩), .int .u64 150] 242)) (by rw [World.cell?_alloc_lt _ _ ⟨w.heap.size, 0, none⟩ (by simp; omega)]; simp)
  have st := setSyn t ⟨w.heap.size + 1 + 1 + 1, 0, none⟩ e old ((((w.alloc (.cells #[.pointer (some t)] 142)).alloc (.cells #[.pointer (some ⟨13, 142, none⟩), .pointer (some ⟨w.heap.size, 0, none⟩), .int .u64 150] 242)).alloc (.cells #[.pointer (some ⟨13, 142, none⟩), .pointer (some ⟨w.heap.size, 0, none⟩), .int .u64 150] 242)).alloc (.cells #[.pointer (some e)] 133))
    (by rw [World.cell?_alloc_at _ _ _ _ (by simp)]; rfl)
    (by rw [World.cell?_alloc_lt _ _ t (by simp; omega), World.cell?_alloc_lt _ _ t (by simp; omega), World.cell?_alloc_lt _ _ t (by simp; omega), World.cell?_alloc_lt _ _ t htl]; exact ht0)
    (by rw [World.frozen?_alloc_old _ _ t (by simp; omega), World.frozen?_alloc_old _ _ t (by simp; omega), World.frozen?_alloc_old _ _ t (by simp; omega), World.frozen?_alloc_old _ _ t (Nat.ne_of_lt htl)]; exact hf0)
  go_enter Tryz.func65, Tryz.ntmps65
  go_wp2
  refine wp_loop_rounds 1 ?_
  rw [rounds_succ]
  go_wp2
  go_ret
  exact ⟨rfl, rfl⟩

theorem as_nilUnb (t : Value) (w : World) :
    Calls Tryz.prog 65 #[.nilIface, t] w fun e w' => e = .returned (.bool false) ∧ w = w' := by
  go_enter Tryz.func65, Tryz.ntmps65
  go_wp2
  go_ret
  exact ⟨rfl, rfl⟩
set_option maxHeartbeats 4000000 in
theorem as_hitUnb (e t : Addr) (old : Value) (w : World) (hg : w.cell? ⟨8, 0, none⟩ = some (.iface 294 (.agg #[.pointer (some ⟨13, 67, none⟩)]))) (ht0 : w.cell? t = some old) (hf0 : w.frozen? t = false) :
    Calls Tryz.prog 65 #[.iface 134 (.pointer (some e)), .iface 145 (.pointer (some t))] w fun ev w' => ev = .returned (.bool true) ∧ ((((w.alloc (.cells #[.pointer (some t)] 145)).alloc (.cells #[.pointer (some ⟨13, 145, none⟩), .pointer (some ⟨w.heap.size, 0, none⟩), .int .u64 150] 242)).alloc (.cells #[.pointer (some ⟨13, 145, none⟩), .pointer (some ⟨w.heap.size, 0, none⟩), .int .u64 150] 242)).alloc (.cells #[.pointer (some e)] 134)).setCell t (.pointer (some e)) = w' := by
  have x109 := @run_callFunc_extern Tryz.prog 109 _ (fun args => ReflectliteValue.unpack (args.getD 0 (.tuple #[]))) Tryz.func109 (by kernel_rfl) (by kernel_rfl) (by kernel_rfl) (by kernel_rfl)
  have x110 := @run_callFunc_extern Tryz.prog 110 _ (ReflectliteValue.methodAny (ReflectliteValue.valueError "reflectlite.Value.Type" 0) (fun t _ _ _ => ReflectliteType.toType t)) Tryz.func110 (by kernel_rfl) (by kernel_rfl) (by kernel_rfl) (by kernel_rfl)
  have x111 := @run_callFunc_extern Tryz.prog 111 _ (ReflectliteValue.method (ReflectliteValue.valueError "reflectlite.Value.IsNil" 0) ReflectliteValue.isNil) Tryz.func111 (by kernel_rfl) (by kernel_rfl) (by kernel_rfl) (by kernel_rfl)
  have x225 := @run_callFunc_extern Tryz.prog 225 _ (ReflectliteType.abiMethod fun t => do pure (.int .u8 (← Rtype.kind t))) Tryz.func225 (by kernel_rfl) (by kernel_rfl) (by kernel_rfl) (by kernel_rfl)
  have x241 := @run_callFunc_extern Tryz.prog 241 _ (ReflectliteType.method ReflectliteType.elem) Tryz.func241 (by kernel_rfl) (by kernel_rfl) (by kernel_rfl) (by kernel_rfl)
  have x242 := @run_callFunc_extern Tryz.prog 242 _ (ReflectliteType.relation "Implements" ReflectliteType.implements_) Tryz.func242 (by kernel_rfl) (by kernel_rfl) (by kernel_rfl) (by kernel_rfl)
  have x113 := @run_callFunc_extern Tryz.prog 113 _ (ReflectliteType.typeOf) Tryz.func113 (by kernel_rfl) (by kernel_rfl) (by kernel_rfl) (by kernel_rfl)
  have x239 := @run_callFunc_extern Tryz.prog 239 _ (ReflectliteType.relation "AssignableTo" ReflectliteType.assignableTo) Tryz.func239 (by kernel_rfl) (by kernel_rfl) (by kernel_rfl) (by kernel_rfl)
  have x147 := @run_callFunc_extern Tryz.prog 147 _ (ReflectliteValue.method (ReflectliteValue.valueError "reflectlite.Value.Elem" 0) ReflectliteValue.elem) Tryz.func147 (by kernel_rfl) (by kernel_rfl) (by kernel_rfl) (by kernel_rfl)
  have x148 := @run_callFunc_extern Tryz.prog 148 _ (ReflectliteValue.set) Tryz.func148 (by kernel_rfl) (by kernel_rfl) (by kernel_rfl) (by kernel_rfl)
  have tO := typeOfUnb
  have a25 := asgUnbUnb
  have v25 := valueOfEUnb
  have f6 := valueOfTUnb
  have f7 := typeTUnb
  have mK := mKind
  have mE := mElem
  have mI := mImplements
  have mA := mAssignableTo
  have k27 := kindTUnb
  have k25 := kindEUnb
  have e27 := elemTUnb
  have i25 := implementsUnb
  have n8 := isNilTUnb ⟨w.heap.size, 0, none⟩ t ((w.alloc (.cells #[.pointer (some t)] 145)).alloc (.cells #[.pointer (some ⟨13, 145, none⟩), .pointer (some ⟨w.heap.size, 0, none⟩), .int .u64 150] 242)) (by simp)
  have hlt : 8 < w.heap.size := by
    rcases Nat.lt_or_ge 8 w.heap.size with h | h
    · exact h
    · simp [World.cell?, Array.getElem?_eq_none h] at hg
  have hg2 : ((w.alloc (.cells #[.pointer (some t)] 145)).alloc (.cells #[.pointer (some ⟨13, 145, none⟩), .pointer (some ⟨w.heap.size, 0, none⟩), .int .u64 150] 242)).cell? ⟨8, 0, none⟩ = some (.iface 294 (.agg #[.pointer (some ⟨13, 67, none⟩)])) := by
    rw [World.cell?_alloc_lt _ _ ⟨8, 0, none⟩ (by simp; omega), World.cell?_alloc_lt _ _ ⟨8, 0, none⟩ hlt]; exact hg
  have htl : t.block < w.heap.size := by
    rcases Nat.lt_or_ge t.block w.heap.size with h | h
    · exact h
    · simp [World.cell?, Array.getElem?_eq_none h] at ht0
  have el := elemVUnb ⟨w.heap.size, 0, none⟩ t (((w.alloc (.cells #[.pointer (some t)] 145)).alloc (.cells #[.pointer (some ⟨13, 145, none⟩), .pointer (some ⟨w.heap.size, 0, none⟩), .int .u64 150] 242)).alloc (.cells #[.pointer (some ⟨13, 145, none⟩), .pointer (some ⟨w.heap.size, 0, none⟩), .int .u64 150] 242)) (by rw [World.cell?_alloc_lt _ _ ⟨w.heap.size, 0, none⟩ (by simp; omega)]; simp)
  have st := setUnb t ⟨w.heap.size + 1 + 1 + 1, 0, none⟩ e old ((((w.alloc (.cells #[.pointer (some t)] 145)).alloc (.cells #[.pointer (some ⟨13, 145, none⟩), .pointer (some ⟨w.heap.size, 0, none⟩), .int .u64 150] 242)).alloc (.cells #[.pointer (some ⟨13, 145, none⟩), .pointer (some ⟨w.heap.size, 0, none⟩), .int .u64 150] 242)).alloc (.cells #[.pointer (some e)] 134))
    (by rw [World.cell?_alloc_at _ _ _ _ (by simp)]; rfl)
    (by rw [World.cell?_alloc_lt _ _ t (by simp; omega), World.cell?_alloc_lt _ _ t (by simp; omega), World.cell?_alloc_lt _ _ t (by simp; omega), World.cell?_alloc_lt _ _ t htl]; exact ht0)
    (by rw [World.frozen?_alloc_old _ _ t (by simp; omega), World.frozen?_alloc_old _ _ t (by simp; omega), World.frozen?_alloc_old _ _ t (by simp; omega), World.frozen?_alloc_old _ _ t (Nat.ne_of_lt htl)]; exact hf0)
  go_enter Tryz.func65, Tryz.ntmps65
  go_wp2
  refine wp_loop_rounds 1 ?_
  rw [rounds_succ]
  go_wp2
  go_ret
  exact ⟨rfl, rfl⟩

set_option maxHeartbeats 4000000 in
theorem as_missSynEnv (v : Value) (t : Addr) (w : World) (hg : w.cell? ⟨8, 0, none⟩ = some (.iface 294 (.agg #[.pointer (some ⟨13, 67, none⟩)]))) :
    Calls Tryz.prog 65 #[.iface 133 v, .iface 137 (.pointer (some t))] w fun ev w' => ev = .returned (.bool false) ∧ (((w.alloc (.cells #[.pointer (some t)] 137)).alloc (.cells #[.pointer (some ⟨13, 137, none⟩), .pointer (some ⟨w.heap.size, 0, none⟩), .int .u64 150] 242)).alloc (.cells #[.pointer (some ⟨13, 137, none⟩), .pointer (some ⟨w.heap.size, 0, none⟩), .int .u64 150] 242)) = w' := by
  have x109 := @run_callFunc_extern Tryz.prog 109 _ (fun args => ReflectliteValue.unpack (args.getD 0 (.tuple #[]))) Tryz.func109 (by kernel_rfl) (by kernel_rfl) (by kernel_rfl) (by kernel_rfl)
  have x110 := @run_callFunc_extern Tryz.prog 110 _ (ReflectliteValue.methodAny (ReflectliteValue.valueError "reflectlite.Value.Type" 0) (fun t _ _ _ => ReflectliteType.toType t)) Tryz.func110 (by kernel_rfl) (by kernel_rfl) (by kernel_rfl) (by kernel_rfl)
  have x111 := @run_callFunc_extern Tryz.prog 111 _ (ReflectliteValue.method (ReflectliteValue.valueError "reflectlite.Value.IsNil" 0) ReflectliteValue.isNil) Tryz.func111 (by kernel_rfl) (by kernel_rfl) (by kernel_rfl) (by kernel_rfl)
  have x225 := @run_callFunc_extern Tryz.prog 225 _ (ReflectliteType.abiMethod fun t => do pure (.int .u8 (← Rtype.kind t))) Tryz.func225 (by kernel_rfl) (by kernel_rfl) (by kernel_rfl) (by kernel_rfl)
  have x241 := @run_callFunc_extern Tryz.prog 241 _ (ReflectliteType.method ReflectliteType.elem) Tryz.func241 (by kernel_rfl) (by kernel_rfl) (by kernel_rfl) (by kernel_rfl)
  have x242 := @run_callFunc_extern Tryz.prog 242 _ (ReflectliteType.relation "Implements" ReflectliteType.implements_) Tryz.func242 (by kernel_rfl) (by kernel_rfl) (by kernel_rfl) (by kernel_rfl)
  have x113 := @run_callFunc_extern Tryz.prog 113 _ (ReflectliteType.typeOf) Tryz.func113 (by kernel_rfl) (by kernel_rfl) (by kernel_rfl) (by kernel_rfl)
  have x239 := @run_callFunc_extern Tryz.prog 239 _ (ReflectliteType.relation "AssignableTo" ReflectliteType.assignableTo) Tryz.func239 (by kernel_rfl) (by kernel_rfl) (by kernel_rfl) (by kernel_rfl)
  have tO := typeOfSyn
  have a25 := asgSynEnv
  have nA := noAsSyn
  have nU := noUnwrapSyn
  have nV := noUnwrapsSyn
  have f6 := valueOfTEnv
  have f7 := typeTEnv
  have mK := mKind
  have mE := mElem
  have mI := mImplements
  have mA := mAssignableTo
  have k27 := kindTEnv
  have k25 := kindEEnv
  have e27 := elemTEnv
  have i25 := implementsEnv
  have n8 := isNilTEnv ⟨w.heap.size, 0, none⟩ t ((w.alloc (.cells #[.pointer (some t)] 137)).alloc (.cells #[.pointer (some ⟨13, 137, none⟩), .pointer (some ⟨w.heap.size, 0, none⟩), .int .u64 150] 242)) (by simp)
  have hlt : 8 < w.heap.size := by
    rcases Nat.lt_or_ge 8 w.heap.size with h | h
    · exact h
    · simp [World.cell?, Array.getElem?_eq_none h] at hg
  have hg2 : ((w.alloc (.cells #[.pointer (some t)] 137)).alloc (.cells #[.pointer (some ⟨13, 137, none⟩), .pointer (some ⟨w.heap.size, 0, none⟩), .int .u64 150] 242)).cell? ⟨8, 0, none⟩ = some (.iface 294 (.agg #[.pointer (some ⟨13, 67, none⟩)])) := by
    rw [World.cell?_alloc_lt _ _ ⟨8, 0, none⟩ (by simp; omega), World.cell?_alloc_lt _ _ ⟨8, 0, none⟩ hlt]; exact hg
  go_enter Tryz.func65, Tryz.ntmps65
  go_wp2
  refine wp_loop_rounds 1 ?_
  rw [rounds_succ]
  go_wp2
  go_ret
  exact ⟨rfl, rfl⟩

set_option maxHeartbeats 4000000 in
theorem as_missUnbEnv (v : Value) (t : Addr) (w : World) (hg : w.cell? ⟨8, 0, none⟩ = some (.iface 294 (.agg #[.pointer (some ⟨13, 67, none⟩)]))) :
    Calls Tryz.prog 65 #[.iface 134 v, .iface 137 (.pointer (some t))] w fun ev w' => ev = .returned (.bool false) ∧ (((w.alloc (.cells #[.pointer (some t)] 137)).alloc (.cells #[.pointer (some ⟨13, 137, none⟩), .pointer (some ⟨w.heap.size, 0, none⟩), .int .u64 150] 242)).alloc (.cells #[.pointer (some ⟨13, 137, none⟩), .pointer (some ⟨w.heap.size, 0, none⟩), .int .u64 150] 242)) = w' := by
  have x109 := @run_callFunc_extern Tryz.prog 109 _ (fun args => ReflectliteValue.unpack (args.getD 0 (.tuple #[]))) Tryz.func109 (by kernel_rfl) (by kernel_rfl) (by kernel_rfl) (by kernel_rfl)
  have x110 := @run_callFunc_extern Tryz.prog 110 _ (ReflectliteValue.methodAny (ReflectliteValue.valueError "reflectlite.Value.Type" 0) (fun t _ _ _ => ReflectliteType.toType t)) Tryz.func110 (by kernel_rfl) (by kernel_rfl) (by kernel_rfl) (by kernel_rfl)
  have x111 := @run_callFunc_extern Tryz.prog 111 _ (ReflectliteValue.method (ReflectliteValue.valueError "reflectlite.Value.IsNil" 0) ReflectliteValue.isNil) Tryz.func111 (by kernel_rfl) (by kernel_rfl) (by kernel_rfl) (by kernel_rfl)
  have x225 := @run_callFunc_extern Tryz.prog 225 _ (ReflectliteType.abiMethod fun t => do pure (.int .u8 (← Rtype.kind t))) Tryz.func225 (by kernel_rfl) (by kernel_rfl) (by kernel_rfl) (by kernel_rfl)
  have x241 := @run_callFunc_extern Tryz.prog 241 _ (ReflectliteType.method ReflectliteType.elem) Tryz.func241 (by kernel_rfl) (by kernel_rfl) (by kernel_rfl) (by kernel_rfl)
  have x242 := @run_callFunc_extern Tryz.prog 242 _ (ReflectliteType.relation "Implements" ReflectliteType.implements_) Tryz.func242 (by kernel_rfl) (by kernel_rfl) (by kernel_rfl) (by kernel_rfl)
  have x113 := @run_callFunc_extern Tryz.prog 113 _ (ReflectliteType.typeOf) Tryz.func113 (by kernel_rfl) (by kernel_rfl) (by kernel_rfl) (by kernel_rfl)
  have x239 := @run_callFunc_extern Tryz.prog 239 _ (ReflectliteType.relation "AssignableTo" ReflectliteType.assignableTo) Tryz.func239 (by kernel_rfl) (by kernel_rfl) (by kernel_rfl) (by kernel_rfl)
  have tO := typeOfUnb
  have a25 := asgUnbEnv
  have nA := noAsUnb
  have nU := noUnwrapUnb
  have nV := noUnwrapsUnb
  have f6 := valueOfTEnv
  have f7 := typeTEnv
  have mK := mKind
  have mE := mElem
  have mI := mImplements
  have mA := mAssignableTo
  have k27 := kindTEnv
  have k25 := kindEEnv
  have e27 := elemTEnv
  have i25 := implementsEnv
  have n8 := isNilTEnv ⟨w.heap.size, 0, none⟩ t ((w.alloc (.cells #[.pointer (some t)] 137)).alloc (.cells #[.pointer (some ⟨13, 137, none⟩), .pointer (some ⟨w.heap.size, 0, none⟩), .int .u64 150] 242)) (by simp)
  have hlt : 8 < w.heap.size := by
    rcases Nat.lt_or_ge 8 w.heap.size with h | h
    · exact h
    · simp [World.cell?, Array.getElem?_eq_none h] at hg
  have hg2 : ((w.alloc (.cells #[.pointer (some t)] 137)).alloc (.cells #[.pointer (some ⟨13, 137, none⟩), .pointer (some ⟨w.heap.size, 0, none⟩), .int .u64 150] 242)).cell? ⟨8, 0, none⟩ = some (.iface 294 (.agg #[.pointer (some ⟨13, 67, none⟩)])) := by
    rw [World.cell?_alloc_lt _ _ ⟨8, 0, none⟩ (by simp; omega), World.cell?_alloc_lt _ _ ⟨8, 0, none⟩ hlt]; exact hg
  go_enter Tryz.func65, Tryz.ntmps65
  go_wp2
  refine wp_loop_rounds 1 ?_
  rw [rounds_succ]
  go_wp2
  go_ret
  exact ⟨rfl, rfl⟩

set_option maxHeartbeats 4000000 in
theorem as_missStrEnv (v : Value) (t : Addr) (w : World) (hg : w.cell? ⟨8, 0, none⟩ = some (.iface 294 (.agg #[.pointer (some ⟨13, 67, none⟩)]))) :
    Calls Tryz.prog 65 #[.iface 364 v, .iface 137 (.pointer (some t))] w fun ev w' => ev = .returned (.bool false) ∧ (((w.alloc (.cells #[.pointer (some t)] 137)).alloc (.cells #[.pointer (some ⟨13, 137, none⟩), .pointer (some ⟨w.heap.size, 0, none⟩), .int .u64 150] 242)).alloc (.cells #[.pointer (some ⟨13, 137, none⟩), .pointer (some ⟨w.heap.size, 0, none⟩), .int .u64 150] 242)) = w' := by
  have x109 := @run_callFunc_extern Tryz.prog 109 _ (fun args => ReflectliteValue.unpack (args.getD 0 (.tuple #[]))) Tryz.func109 (by kernel_rfl) (by kernel_rfl) (by kernel_rfl) (by kernel_rfl)
  have x110 := @run_callFunc_extern Tryz.prog 110 _ (ReflectliteValue.methodAny (ReflectliteValue.valueError "reflectlite.Value.Type" 0) (fun t _ _ _ => ReflectliteType.toType t)) Tryz.func110 (by kernel_rfl) (by kernel_rfl) (by kernel_rfl) (by kernel_rfl)
  have x111 := @run_callFunc_extern Tryz.prog 111 _ (ReflectliteValue.method (ReflectliteValue.valueError "reflectlite.Value.IsNil" 0) ReflectliteValue.isNil) Tryz.func111 (by kernel_rfl) (by kernel_rfl) (by kernel_rfl) (by kernel_rfl)
  have x225 := @run_callFunc_extern Tryz.prog 225 _ (ReflectliteType.abiMethod fun t => do pure (.int .u8 (← Rtype.kind t))) Tryz.func225 (by kernel_rfl) (by kernel_rfl) (by kernel_rfl) (by kernel_rfl)
  have x241 := @run_callFunc_extern Tryz.prog 241 _ (ReflectliteType.method ReflectliteType.elem) Tryz.func241 (by kernel_rfl) (by kernel_rfl) (by kernel_rfl) (by kernel_rfl)
  have x242 := @run_callFunc_extern Tryz.prog 242 _ (ReflectliteType.relation "Implements" ReflectliteType.implements_) Tryz.func242 (by kernel_rfl) (by kernel_rfl) (by kernel_rfl) (by kernel_rfl)
  have x113 := @run_callFunc_extern Tryz.prog 113 _ (ReflectliteType.typeOf) Tryz.func113 (by kernel_rfl) (by kernel_rfl) (by kernel_rfl) (by kernel_rfl)
  have x239 := @run_callFunc_extern Tryz.prog 239 _ (ReflectliteType.relation "AssignableTo" ReflectliteType.assignableTo) Tryz.func239 (by kernel_rfl) (by kernel_rfl) (by kernel_rfl) (by kernel_rfl)
  have tO := typeOfStr
  have a25 := asgStrEnv
  have nA := noAsStr
  have nU := noUnwrapStr
  have nV := noUnwrapsStr
  have f6 := valueOfTEnv
  have f7 := typeTEnv
  have mK := mKind
  have mE := mElem
  have mI := mImplements
  have mA := mAssignableTo
  have k27 := kindTEnv
  have k25 := kindEEnv
  have e27 := elemTEnv
  have i25 := implementsEnv
  have n8 := isNilTEnv ⟨w.heap.size, 0, none⟩ t ((w.alloc (.cells #[.pointer (some t)] 137)).alloc (.cells #[.pointer (some ⟨13, 137, none⟩), .pointer (some ⟨w.heap.size, 0, none⟩), .int .u64 150] 242)) (by simp)
  have hlt : 8 < w.heap.size := by
    rcases Nat.lt_or_ge 8 w.heap.size with h | h
    · exact h
    · simp [World.cell?, Array.getElem?_eq_none h] at hg
  have hg2 : ((w.alloc (.cells #[.pointer (some t)] 137)).alloc (.cells #[.pointer (some ⟨13, 137, none⟩), .pointer (some ⟨w.heap.size, 0, none⟩), .int .u64 150] 242)).cell? ⟨8, 0, none⟩ = some (.iface 294 (.agg #[.pointer (some ⟨13, 67, none⟩)])) := by
    rw [World.cell?_alloc_lt _ _ ⟨8, 0, none⟩ (by simp; omega), World.cell?_alloc_lt _ _ ⟨8, 0, none⟩ hlt]; exact hg
  go_enter Tryz.func65, Tryz.ntmps65
  go_wp2
  refine wp_loop_rounds 1 ?_
  rw [rounds_succ]
  go_wp2
  go_ret
  exact ⟨rfl, rfl⟩

set_option maxHeartbeats 4000000 in
theorem as_missUnbSyn (v : Value) (t : Addr) (w : World) (hg : w.cell? ⟨8, 0, none⟩ = some (.iface 294 (.agg #[.pointer (some ⟨13, 67, none⟩)]))) :
    Calls Tryz.prog 65 #[.iface 134 v, .iface 142 (.pointer (some t))] w fun ev w' => ev = .returned (.bool false) ∧ (((w.alloc (.cells #[.pointer (some t)] 142)).alloc (.cells #[.pointer (some ⟨13, 142, none⟩), .pointer (some ⟨w.heap.size, 0, none⟩), .int .u64 150] 242)).alloc (.cells #[.pointer (some ⟨13, 142, none⟩), .pointer (some ⟨w.heap.size, 0, none⟩), .int .u64 150] 242)) = w' := by
  have x109 := @run_callFunc_extern Tryz.prog 109 _ (fun args => ReflectliteValue.unpack (args.getD 0 (.tuple #[]))) Tryz.func109 (by kernel_rfl) (by kernel_rfl) (by kernel_rfl) (by kernel_rfl)
  have x110 := @run_callFunc_extern Tryz.prog 110 _ (ReflectliteValue.methodAny (ReflectliteValue.valueError "reflectlite.Value.Type" 0) (fun t _ _ _ => ReflectliteType.toType t)) Tryz.func110 (by kernel_rfl) (by kernel_rfl) (by kernel_rfl) (by kernel_rfl)
  have x111 := @run_callFunc_extern Tryz.prog 111 _ (ReflectliteValue.method (ReflectliteValue.valueError "reflectlite.Value.IsNil" 0) ReflectliteValue.isNil) Tryz.func111 (by kernel_rfl) (by kernel_rfl) (by kernel_rfl) (by kernel_rfl)
  have x225 := @run_callFunc_extern Tryz.prog 225 _ (ReflectliteType.abiMethod fun t => do pure (.int .u8 (← Rtype.kind t))) Tryz.func225 (by kernel_rfl) (by kernel_rfl) (by kernel_rfl) (by kernel_rfl)
  have x241 := @run_callFunc_extern Tryz.prog 241 _ (ReflectliteType.method ReflectliteType.elem) Tryz.func241 (by kernel_rfl) (by kernel_rfl) (by kernel_rfl) (by kernel_rfl)
  have x242 := @run_callFunc_extern Tryz.prog 242 _ (ReflectliteType.relation "Implements" ReflectliteType.implements_) Tryz.func242 (by kernel_rfl) (by kernel_rfl) (by kernel_rfl) (by kernel_rfl)
  have x113 := @run_callFunc_extern Tryz.prog 113 _ (ReflectliteType.typeOf) Tryz.func113 (by kernel_rfl) (by kernel_rfl) (by kernel_rfl) (by kernel_rfl)
  have x239 := @run_callFunc_extern Tryz.prog 239 _ (ReflectliteType.relation "AssignableTo" ReflectliteType.assignableTo) Tryz.func239 (by kernel_rfl) (by kernel_rfl) (by kernel_rfl) (by kernel_rfl)
  have tO := typeOfUnb
  have a25 := asgUnbSyn
  have nA := noAsUnb
  have nU := noUnwrapUnb
  have nV := noUnwrapsUnb
  have f6 := valueOfTSyn
  have f7 := typeTSyn
  have mK := mKind
  have mE := mElem
  have mI := mImplements
  have mA := mAssignableTo
  have k27 := kindTSyn
  have k25 := kindESyn
  have e27 := elemTSyn
  have i25 := implementsSyn
  have n8 := isNilTSyn ⟨w.heap.size, 0, none⟩ t ((w.alloc (.cells #[.pointer (some t)] 142)).alloc (.cells #[.pointer (some ⟨13, 142, none⟩), .pointer (some ⟨w.heap.size, 0, none⟩), .int .u64 150] 242)) (by simp)
  have hlt : 8 < w.heap.size := by
    rcases Nat.lt_or_ge 8 w.heap.size with h | h
    · exact h
    · simp [World.cell?, Array.getElem?_eq_none h] at hg
  have hg2 : ((w.alloc (.cells #[.pointer (some t)] 142)).alloc (.cells #[.pointer (some ⟨13, 142, none⟩), .pointer (some ⟨w.heap.size, 0, none⟩), .int .u64 150] 242)).cell? ⟨8, 0, none⟩ = some (.iface 294 (.agg #[.pointer (some ⟨13, 67, none⟩)])) := by
    rw [World.cell?_alloc_lt _ _ ⟨8, 0, none⟩ (by simp; omega), World.cell?_alloc_lt _ _ ⟨8, 0, none⟩ hlt]; exact hg
  go_enter Tryz.func65, Tryz.ntmps65
  go_wp2
  refine wp_loop_rounds 1 ?_
  rw [rounds_succ]
  go_wp2
  go_ret
  exact ⟨rfl, rfl⟩

set_option maxHeartbeats 4000000 in
theorem as_missStrSyn (v : Value) (t : Addr) (w : World) (hg : w.cell? ⟨8, 0, none⟩ = some (.iface 294 (.agg #[.pointer (some ⟨13, 67, none⟩)]))) :
    Calls Tryz.prog 65 #[.iface 364 v, .iface 142 (.pointer (some t))] w fun ev w' => ev = .returned (.bool false) ∧ (((w.alloc (.cells #[.pointer (some t)] 142)).alloc (.cells #[.pointer (some ⟨13, 142, none⟩), .pointer (some ⟨w.heap.size, 0, none⟩), .int .u64 150] 242)).alloc (.cells #[.pointer (some ⟨13, 142, none⟩), .pointer (some ⟨w.heap.size, 0, none⟩), .int .u64 150] 242)) = w' := by
  have x109 := @run_callFunc_extern Tryz.prog 109 _ (fun args => ReflectliteValue.unpack (args.getD 0 (.tuple #[]))) Tryz.func109 (by kernel_rfl) (by kernel_rfl) (by kernel_rfl) (by kernel_rfl)
  have x110 := @run_callFunc_extern Tryz.prog 110 _ (ReflectliteValue.methodAny (ReflectliteValue.valueError "reflectlite.Value.Type" 0) (fun t _ _ _ => ReflectliteType.toType t)) Tryz.func110 (by kernel_rfl) (by kernel_rfl) (by kernel_rfl) (by kernel_rfl)
  have x111 := @run_callFunc_extern Tryz.prog 111 _ (ReflectliteValue.method (ReflectliteValue.valueError "reflectlite.Value.IsNil" 0) ReflectliteValue.isNil) Tryz.func111 (by kernel_rfl) (by kernel_rfl) (by kernel_rfl) (by kernel_rfl)
  have x225 := @run_callFunc_extern Tryz.prog 225 _ (ReflectliteType.abiMethod fun t => do pure (.int .u8 (← Rtype.kind t))) Tryz.func225 (by kernel_rfl) (by kernel_rfl) (by kernel_rfl) (by kernel_rfl)
  have x241 := @run_callFunc_extern Tryz.prog 241 _ (ReflectliteType.method ReflectliteType.elem) Tryz.func241 (by kernel_rfl) (by kernel_rfl) (by kernel_rfl) (by kernel_rfl)
  have x242 := @run_callFunc_extern Tryz.prog 242 _ (ReflectliteType.relation "Implements" ReflectliteType.implements_) Tryz.func242 (by kernel_rfl) (by kernel_rfl) (by kernel_rfl) (by kernel_rfl)
  have x113 := @run_callFunc_extern Tryz.prog 113 _ (ReflectliteType.typeOf) Tryz.func113 (by kernel_rfl) (by kernel_rfl) (by kernel_rfl) (by kernel_rfl)
  have x239 := @run_callFunc_extern Tryz.prog 239 _ (ReflectliteType.relation "AssignableTo" ReflectliteType.assignableTo) Tryz.func239 (by kernel_rfl) (by kernel_rfl) (by kernel_rfl) (by kernel_rfl)
  have tO := typeOfStr
  have a25 := asgStrSyn
  have nA := noAsStr
  have nU := noUnwrapStr
  have nV := noUnwrapsStr
  have f6 := valueOfTSyn
  have f7 := typeTSyn
  have mK := mKind
  have mE := mElem
  have mI := mImplements
  have mA := mAssignableTo
  have k27 := kindTSyn
  have k25 := kindESyn
  have e27 := elemTSyn
  have i25 := implementsSyn
  have n8 := isNilTSyn ⟨w.heap.size, 0, none⟩ t ((w.alloc (.cells #[.pointer (some t)] 142)).alloc (.cells #[.pointer (some ⟨13, 142, none⟩), .pointer (some ⟨w.heap.size, 0, none⟩), .int .u64 150] 242)) (by simp)
  have hlt : 8 < w.heap.size := by
    rcases Nat.lt_or_ge 8 w.heap.size with h | h
    · exact h
    · simp [World.cell?, Array.getElem?_eq_none h] at hg
  have hg2 : ((w.alloc (.cells #[.pointer (some t)] 142)).alloc (.cells #[.pointer (some ⟨13, 142, none⟩), .pointer (some ⟨w.heap.size, 0, none⟩), .int .u64 150] 242)).cell? ⟨8, 0, none⟩ = some (.iface 294 (.agg #[.pointer (some ⟨13, 67, none⟩)])) := by
    rw [World.cell?_alloc_lt _ _ ⟨8, 0, none⟩ (by simp; omega), World.cell?_alloc_lt _ _ ⟨8, 0, none⟩ hlt]; exact hg
  go_enter Tryz.func65, Tryz.ntmps65
  go_wp2
  refine wp_loop_rounds 1 ?_
  rw [rounds_succ]
  go_wp2
  go_ret
  exact ⟨rfl, rfl⟩

set_option maxHeartbeats 4000000 in
theorem as_missStrUnb (v : Value) (t : Addr) (w : World) (hg : w.cell? ⟨8, 0, none⟩ = some (.iface 294 (.agg #[.pointer (some ⟨13, 67, none⟩)]))) :
    Calls Tryz.prog 65 #[.iface 364 v, .iface 145 (.pointer (some t))] w fun ev w' => ev = .returned (.bool false) ∧ (((w.alloc (.cells #[.pointer (some t)] 145)).alloc (.cells #[.pointer (some ⟨13, 145, none⟩), .pointer (some ⟨w.heap.size, 0, none⟩), .int .u64 150] 242)).alloc (.cells #[.pointer (some ⟨13, 145, none⟩), .pointer (some ⟨w.heap.size, 0, none⟩), .int .u64 150] 242)) = w' := by
  have x109 := @run_callFunc_extern Tryz.prog 109 _ (fun args => ReflectliteValue.unpack (args.getD 0 (.tuple #[]))) Tryz.func109 (by kernel_rfl) (by kernel_rfl) (by kernel_rfl) (by kernel_rfl)
  have x110 := @run_callFunc_extern Tryz.prog 110 _ (ReflectliteValue.methodAny (ReflectliteValue.valueError "reflectlite.Value.Type" 0) (fun t _ _ _ => ReflectliteType.toType t)) Tryz.func110 (by kernel_rfl) (by kernel_rfl) (by kernel_rfl) (by kernel_rfl)
  have x111 := @run_callFunc_extern Tryz.prog 111 _ (ReflectliteValue.method (ReflectliteValue.valueError "reflectlite.Value.IsNil" 0) ReflectliteValue.isNil) Tryz.func111 (by kernel_rfl) (by kernel_rfl) (by kernel_rfl) (by kernel_rfl)
  have x225 := @run_callFunc_extern Tryz.prog 225 _ (ReflectliteType.abiMethod fun t => do pure (.int .u8 (← Rtype.kind t))) Tryz.func225 (by kernel_rfl) (by kernel_rfl) (by kernel_rfl) (by kernel_rfl)
  have x241 := @run_callFunc_extern Tryz.prog 241 _ (ReflectliteType.method ReflectliteType.elem) Tryz.func241 (by kernel_rfl) (by kernel_rfl) (by kernel_rfl) (by kernel_rfl)
  have x242 := @run_callFunc_extern Tryz.prog 242 _ (ReflectliteType.relation "Implements" ReflectliteType.implements_) Tryz.func242 (by kernel_rfl) (by kernel_rfl) (by kernel_rfl) (by kernel_rfl)
  have x113 := @run_callFunc_extern Tryz.prog 113 _ (ReflectliteType.typeOf) Tryz.func113 (by kernel_rfl) (by kernel_rfl) (by kernel_rfl) (by kernel_rfl)
  have x239 := @run_callFunc_extern Tryz.prog 239 _ (ReflectliteType.relation "AssignableTo" ReflectliteType.assignableTo) Tryz.func239 (by kernel_rfl) (by kernel_rfl) (by kernel_rfl) (by kernel_rfl)
  have tO := typeOfStr
  have a25 := asgStrUnb
  have nA := noAsStr
  have nU := noUnwrapStr
  have nV := noUnwrapsStr
  have f6 := valueOfTUnb
  have f7 := typeTUnb
  have mK := mKind
  have mE := mElem
  have mI := mImplements
  have mA := mAssignableTo
  have k27 := kindTUnb
  have k25 := kindEUnb
  have e27 := elemTUnb
  have i25 := implementsUnb
  have n8 := isNilTUnb ⟨w.heap.size, 0, none⟩ t ((w.alloc (.cells #[.pointer (some t)] 145)).alloc (.cells #[.pointer (some ⟨13, 145, none⟩), .pointer (some ⟨w.heap.size, 0, none⟩), .int .u64 150] 242)) (by simp)
  have hlt : 8 < w.heap.size := by
    rcases Nat.lt_or_ge 8 w.heap.size with h | h
    · exact h
    · simp [World.cell?, Array.getElem?_eq_none h] at hg
  have hg2 : ((w.alloc (.cells #[.pointer (some t)] 145)).alloc (.cells #[.pointer (some ⟨13, 145, none⟩), .pointer (some ⟨w.heap.size, 0, none⟩), .int .u64 150] 242)).cell? ⟨8, 0, none⟩ = some (.iface 294 (.agg #[.pointer (some ⟨13, 67, none⟩)])) := by
    rw [World.cell?_alloc_lt _ _ ⟨8, 0, none⟩ (by simp; omega), World.cell?_alloc_lt _ _ ⟨8, 0, none⟩ hlt]; exact hg
  go_enter Tryz.func65, Tryz.ntmps65
  go_wp2
  refine wp_loop_rounds 1 ?_
  rw [rounds_succ]
  go_wp2
  go_ret
  exact ⟨rfl, rfl⟩
end Go.Proofs.YtpbplpnifjbkoaaGreatDoor

namespace Go.Proofs.YtpbplpnifjbkoaaGreatDoor
open Go.RowKit Go.Extern.Stop Go.Stop Go.Extern


set_option maxHeartbeats 4000000 in
theorem as_envSyn (pb : Nat) (e t : Addr) (old : Value) (w : World) (hg : w.cell? ⟨8, 0, none⟩ = some (.iface 294 (.agg #[.pointer (some ⟨13, 67, none⟩)]))) (h1 : w.cell? ⟨pb, 1, none⟩ = some (.iface 133 (.pointer (some e)))) (ht0 : w.cell? t = some old) (hf0 : w.frozen? t = false) :
    Calls Tryz.prog 65 #[.iface 135 (.pointer (some ⟨pb, 0, none⟩)), .iface 142 (.pointer (some t))] w fun ev w' => ev = .returned (.bool true) ∧ ((((w.alloc (.cells #[.pointer (some t)] 142)).alloc (.cells #[.pointer (some ⟨13, 142, none⟩), .pointer (some ⟨w.heap.size, 0, none⟩), .int .u64 150] 242)).alloc (.cells #[.pointer (some ⟨13, 142, none⟩), .pointer (some ⟨w.heap.size, 0, none⟩), .int .u64 150] 242)).alloc (.cells #[.pointer (some e)] 133)).setCell t (.pointer (some e)) = w' := by
  have x109 := @run_callFunc_extern Tryz.prog 109 _ (fun args => ReflectliteValue.unpack (args.getD 0 (.tuple #[]))) Tryz.func109 (by kernel_rfl) (by kernel_rfl) (by kernel_rfl) (by kernel_rfl)
  have x110 := @run_callFunc_extern Tryz.prog 110 _ (ReflectliteValue.methodAny (ReflectliteValue.valueError "reflectlite.Value.Type" 0) (fun t _ _ _ => ReflectliteType.toType t)) Tryz.func110 (by kernel_rfl) (by kernel_rfl) (by kernel_rfl) (by kernel_rfl)
  have x111 := @run_callFunc_extern Tryz.prog 111 _ (ReflectliteValue.method (ReflectliteValue.valueError "reflectlite.Value.IsNil" 0) ReflectliteValue.isNil) Tryz.func111 (by kernel_rfl) (by kernel_rfl) (by kernel_rfl) (by kernel_rfl)
  have x225 := @run_callFunc_extern Tryz.prog 225 _ (ReflectliteType.abiMethod fun t => do pure (.int .u8 (← Rtype.kind t))) Tryz.func225 (by kernel_rfl) (by kernel_rfl) (by kernel_rfl) (by kernel_rfl)
  have x241 := @run_callFunc_extern Tryz.prog 241 _ (ReflectliteType.method ReflectliteType.elem) Tryz.func241 (by kernel_rfl) (by kernel_rfl) (by kernel_rfl) (by kernel_rfl)
  have x242 := @run_callFunc_extern Tryz.prog 242 _ (ReflectliteType.relation "Implements" ReflectliteType.implements_) Tryz.func242 (by kernel_rfl) (by kernel_rfl) (by kernel_rfl) (by kernel_rfl)
  have x113 := @run_callFunc_extern Tryz.prog 113 _ (ReflectliteType.typeOf) Tryz.func113 (by kernel_rfl) (by kernel_rfl) (by kernel_rfl) (by kernel_rfl)
  have x239 := @run_callFunc_extern Tryz.prog 239 _ (ReflectliteType.relation "AssignableTo" ReflectliteType.assignableTo) Tryz.func239 (by kernel_rfl) (by kernel_rfl) (by kernel_rfl) (by kernel_rfl)
  have x147 := @run_callFunc_extern Tryz.prog 147 _ (ReflectliteValue.method (ReflectliteValue.valueError "reflectlite.Value.Elem" 0) ReflectliteValue.elem) Tryz.func147 (by kernel_rfl) (by kernel_rfl) (by kernel_rfl) (by kernel_rfl)
  have x148 := @run_callFunc_extern Tryz.prog 148 _ (ReflectliteValue.set) Tryz.func148 (by kernel_rfl) (by kernel_rfl) (by kernel_rfl) (by kernel_rfl)
  have tO := typeOfSyn
  have tOE := typeOfEnv
  have a25 := asgSynSyn
  have a26 := asgEnvSyn
  have v25 := valueOfESyn
  have nA := noAsEnv
  have uW := hasUnwrapEnv
  have mU := mUnwrap
  have f6 := valueOfTSyn
  have f7 := typeTSyn
  have mK := mKind
  have mE := mElem
  have mI := mImplements
  have mA := mAssignableTo
  have k27 := kindTSyn
  have k25 := kindESyn
  have e27 := elemTSyn
  have i25 := implementsSyn
  have n8 := isNilTSyn ⟨w.heap.size, 0, none⟩ t ((w.alloc (.cells #[.pointer (some t)] 142)).alloc (.cells #[.pointer (some ⟨13, 142, none⟩), .pointer (some ⟨w.heap.size, 0, none⟩), .int .u64 150] 242)) (by simp)
  have hlt : 8 < w.heap.size := by
    rcases Nat.lt_or_ge 8 w.heap.size with h | h
    · exact h
    · simp [World.cell?, Array.getElem?_eq_none h] at hg
  have hg2 : ((w.alloc (.cells #[.pointer (some t)] 142)).alloc (.cells #[.pointer (some ⟨13, 142, none⟩), .pointer (some ⟨w.heap.size, 0, none⟩), .int .u64 150] 242)).cell? ⟨8, 0, none⟩ = some (.iface 294 (.agg #[.pointer (some ⟨13, 67, none⟩)])) := by
    rw [World.cell?_alloc_lt _ _ ⟨8, 0, none⟩ (by simp; omega), World.cell?_alloc_lt _ _ ⟨8, 0, none⟩ hlt]; exact hg
  have htl : t.block < w.heap.size := by
    rcases Nat.lt_or_ge t.block w.heap.size with h | h
    · exact h
    · simp [World.cell?, Array.getElem?_eq_none h] at ht0
  have hpl : pb < w.heap.size := by
    rcases Nat.lt_or_ge pb w.heap.size with h | h
    · exact h
    · simp [World.cell?, Array.getElem?_eq_none h] at h1
  have h3 : (((w.alloc (.cells #[.pointer (some t)] 142)).alloc (.cells #[.pointer (some ⟨13, 142, none⟩), .pointer (some ⟨w.heap.size, 0, none⟩), .int .u64 150] 242)).alloc (.cells #[.pointer (some ⟨13, 142, none⟩), .pointer (some ⟨w.heap.size, 0, none⟩), .int .u64 150] 242)).cell? ⟨pb, 1, none⟩ = some (.iface 133 (.pointer (some e))) := by
    rw [World.cell?_alloc_lt _ _ ⟨pb, 1, none⟩ (by simp; omega), World.cell?_alloc_lt _ _ ⟨pb, 1, none⟩ (by simp; omega), World.cell?_alloc_lt _ _ ⟨pb, 1, none⟩ hpl]; exact h1
  have el := elemVSyn ⟨w.heap.size, 0, none⟩ t (((w.alloc (.cells #[.pointer (some t)] 142)).alloc (.cells #[.pointer (some ⟨13, 142, none⟩), .pointer (some ⟨w.heap.size, 0, none⟩), .int .u64 150] 242)).alloc (.cells #[.pointer (some ⟨13, 142, none⟩), .pointer (some ⟨w.heap.size, 0, none⟩), .int .u64 150] 242)) (by rw [World.cell?_alloc_lt _ _ ⟨w.heap.size, 0, none⟩ (by simp; omega)]; simp)
  have st := setSyn t ⟨w.heap.size + 1 + 1 + 1, 0, none⟩ e old ((((w.alloc (.cells #[.pointer (some t)] 142)).alloc (.cells #[.pointer (some ⟨13, 142, none⟩), .pointer (some ⟨w.heap.size, 0, none⟩), .int .u64 150] 242)).alloc (.cells #[.pointer (some ⟨13, 142, none⟩), .pointer (some ⟨w.heap.size, 0, none⟩), .int .u64 150] 242)).alloc (.cells #[.pointer (some e)] 133))
    (by rw [World.cell?_alloc_at _ _ _ _ (by simp)]; rfl)
    (by rw [World.cell?_alloc_lt _ _ t (by simp; omega), World.cell?_alloc_lt _ _ t (by simp; omega), World.cell?_alloc_lt _ _ t (by simp; omega), World.cell?_alloc_lt _ _ t htl]; exact ht0)
    (by rw [World.frozen?_alloc_old _ _ t (by simp; omega), World.frozen?_alloc_old _ _ t (by simp; omega), World.frozen?_alloc_old _ _ t (by simp; omega), World.frozen?_alloc_old _ _ t (Nat.ne_of_lt htl)]; exact hf0)
  go_enter Tryz.func65, Tryz.ntmps65
  go_wp2
  refine wp_loop_rounds 2 ?_
  rw [rounds_succ]
  go_wp2
  rw [rounds_succ]
  go_wp2
  go_ret
  exact ⟨rfl, rfl⟩
end Go.Proofs.YtpbplpnifjbkoaaGreatDoor

/-
  errors.As at the targets of package plain, by contracts (after the guide's worked toyas). Printed by gen_as.py.
-/
import Derived.Test.YtpbplpnifjbkoabGreatDoorErrs
namespace Go.Proofs.YtpbplpnifjbkoabGreatDoor
open Go.RowKit Go.Extern.Stop Go.Stop Go.Extern


theorem as_nilEnv (t : Value) (w : World) :
    Calls Tryz.prog 58 #[.nilIface, t] w fun e w' => e = .returned (.bool false) ∧ w = w' := by
  go_enter Tryz.func58, Tryz.ntmps58
  go_wp2
  go_ret
  exact ⟨rfl, rfl⟩
set_option maxHeartbeats 4000000 in
theorem as_hitEnv (e t : Addr) (old : Value) (w : World) (hg : w.cell? ⟨8, 0, none⟩ = some (.iface 286 (.agg #[.pointer (some ⟨13, 61, none⟩)]))) (ht0 : w.cell? t = some old) (hf0 : w.frozen? t = false) :
    Calls Tryz.prog 58 #[.iface 137 (.pointer (some e)), .iface 139 (.pointer (some t))] w fun ev w' => ev = .returned (.bool true) ∧ ((((w.alloc (.cells #[.pointer (some t)] 139)).alloc (.cells #[.pointer (some ⟨13, 139, none⟩), .pointer (some ⟨w.heap.size, 0, none⟩), .int .u64 150] 230)).alloc (.cells #[.pointer (some ⟨13, 139, none⟩), .pointer (some ⟨w.heap.size, 0, none⟩), .int .u64 150] 230)).alloc (.cells #[.pointer (some e)] 137)).setCell t (.pointer (some e)) = w' := by
  have x101 := @run_callFunc_extern Tryz.prog 101 _ (fun args => ReflectliteValue.unpack (args.getD 0 (.tuple #[]))) Tryz.func101 (by kernel_rfl) (by kernel_rfl) (by kernel_rfl) (by kernel_rfl)
  have x102 := @run_callFunc_extern Tryz.prog 102 _ (ReflectliteValue.methodAny (ReflectliteValue.valueError "reflectlite.Value.Type" 0) (fun t _ _ _ => ReflectliteType.toType t)) Tryz.func102 (by kernel_rfl) (by kernel_rfl) (by kernel_rfl) (by kernel_rfl)
  have x103 := @run_callFunc_extern Tryz.prog 103 _ (ReflectliteValue.method (ReflectliteValue.valueError "reflectlite.Value.IsNil" 0) ReflectliteValue.isNil) Tryz.func103 (by kernel_rfl) (by kernel_rfl) (by kernel_rfl) (by kernel_rfl)
  have x215 := @run_callFunc_extern Tryz.prog 215 _ (ReflectliteType.abiMethod fun t => do pure (.int .u8 (← Rtype.kind t))) Tryz.func215 (by kernel_rfl) (by kernel_rfl) (by kernel_rfl) (by kernel_rfl)
  have x230 := @run_callFunc_extern Tryz.prog 230 _ (ReflectliteType.method ReflectliteType.elem) Tryz.func230 (by kernel_rfl) (by kernel_rfl) (by kernel_rfl) (by kernel_rfl)
  have x231 := @run_callFunc_extern Tryz.prog 231 _ (ReflectliteType.relation "Implements" ReflectliteType.implements_) Tryz.func231 (by kernel_rfl) (by kernel_rfl) (by kernel_rfl) (by kernel_rfl)
  have x105 := @run_callFunc_extern Tryz.prog 105 _ (ReflectliteType.typeOf) Tryz.func105 (by kernel_rfl) (by kernel_rfl) (by kernel_rfl) (by kernel_rfl)
  have x228 := @run_callFunc_extern Tryz.prog 228 _ (ReflectliteType.relation "AssignableTo" ReflectliteType.assignableTo) Tryz.func228 (by kernel_rfl) (by kernel_rfl) (by kernel_rfl) (by kernel_rfl)
  have x144 := @run_callFunc_extern Tryz.prog 144 _ (ReflectliteValue.method (ReflectliteValue.valueError "reflectlite.Value.Elem" 0) ReflectliteValue.elem) Tryz.func144 (by kernel_rfl) (by kernel_rfl) (by kernel_rfl) (by kernel_rfl)
  have x145 := @run_callFunc_extern Tryz.prog 145 _ (ReflectliteValue.set) Tryz.func145 (by kernel_rfl) (by kernel_rfl) (by kernel_rfl) (by kernel_rfl)
  have tO := typeOfEnv
  have a25 := asgEnvEnv
  have v25 := valueOfEEnv
  have f6 := valueOfTEnv
  have f7 := typeTEnv
  have mK := mKind
  have mE := mElem
  have mI := mImplements
  have mA := mAssignableTo
  have k27 := kindTEnv
  have k25 := kindEEnv
  have e27 := elemTEnv
  have i25 := implementsEnv
  have n8 := isNilTEnv ⟨w.heap.size, 0, none⟩ t ((w.alloc (.cells #[.pointer (some t)] 139)).alloc (.cells #[.pointer (some ⟨13, 139, none⟩), .pointer (some ⟨w.heap.size, 0, none⟩), .int .u64 150] 230)) (by simp)
  have hlt : 8 < w.heap.size := by
    rcases Nat.lt_or_ge 8 w.heap.size with h | h
    · exact h
    · simp [World.cell?, Array.getElem?_eq_none h] at hg
  have hg2 : ((w.alloc (.cells #[.pointer (some t)] 139)).alloc (.cells #[.pointer (some ⟨13, 139, none⟩), .pointer (some ⟨w.heap.size, 0, none⟩), .int .u64 150] 230)).cell? ⟨8, 0, none⟩ = some (.iface 286 (.agg #[.pointer (some ⟨13, 61, none⟩)])) := by
    rw [World.cell?_alloc_lt _ _ ⟨8, 0, none⟩ (by simp; omega), World.cell?_alloc_lt _ _ ⟨8, 0, none⟩ hlt]; exact hg
  have htl : t.block < w.heap.size := by
    rcases Nat.lt_or_ge t.block w.heap.size with h | h
    · exact h
    · simp [World.cell?, Array.getElem?_eq_none h] at ht0
  have el := elemVEnv ⟨w.heap.size, 0, none⟩ t (((w.alloc (.cells #[.pointer (some t)] 139)).alloc (.cells #[.pointer (some ⟨13, 139, none⟩), .pointer (some ⟨w.heap.size, 0, none⟩), .int .u64 150] 230)).alloc (.cells #[.pointer (some ⟨13, 139, none⟩), .pointer (some ⟨w.heap.size, 0, none⟩), .int .u64 150] 230)) (by rw [World.cell?_alloc_lt _ _ ⟨w.heap.size, 0, none⟩ (by simp; omega)]; simp)
  have st := setEnv t ⟨w.heap.size + 1 + 1 + 1, 0, none⟩ e old ((((w.alloc (.cells #[.pointer (some t)] 139)).alloc (.cells #[.pointer (some ⟨13, 139, none⟩), .pointer (some ⟨w.heap.size, 0, none⟩), .int .u64 150] 230)).alloc (.cells #[.pointer (some ⟨13, 139, none⟩), .pointer (some ⟨w.heap.size, 0, none⟩), .int .u64 150] 230)).alloc (.cells #[.pointer (some e)] 137))
    (by rw [World.cell?_alloc_at _ _ _ _ (by simp)]; rfl)
    (by rw [World.cell?_alloc_lt _ _ t (by simp; omega), World.cell?_alloc_lt _ _ t (by simp; omega), World.cell?_alloc_lt _ _ t (by simp; omega), World.cell?_alloc_lt _ _ t htl]; exact ht0)
    (by rw [World.frozen?_alloc_old _ _ t (by simp; omega), World.frozen?_alloc_old _ _ t (by simp; omega), World.frozen?_alloc_old _ _ t (by simp; omega), World.frozen?_alloc_old _ _ t (Nat.ne_of_lt htl)]; exact hf0)
  go_enter Tryz.func58, Tryz.ntmps58
  go_wp2
  refine wp_loop_rounds 1 ?_
  rw [rounds_succ]
  go_wp2
  go_ret
  exact ⟨rfl, rfl⟩

theorem as_nilSyn (t : Value) (w : World) :
    Calls Tryz.prog 58 #[.nilIface, t] w fun e w' => e = .returned (.bool false) ∧ w = w' := by
  go_enter Tryz.func58, Tryz.ntmps58
  go_wp2
  go_ret
  exact ⟨rfl, rfl⟩
set_option maxHeartbeats 4000000 in
theorem as_hitSyn (e t : Addr) (old : Value) (w : World) (hg : w.cell? ⟨8, 0, none⟩ = some (.iface 286 (.agg #[.pointer (some ⟨13, 61, none⟩)]))) (ht0 : w.cell? t = some old) (hf0 : w.frozen? t = false) :
    Calls Tryz.prog 58 #[.iface 135 (.pointer (some e)), .iface 144 (.pointer (some t))] w fun ev w' => ev = .returned (.bool true) ∧ ((((w.alloc (.cells #[.pointer (some t)] 144)).alloc (.cells #[.pointer (some ⟨13, 144, none⟩), .pointer (some ⟨w.heap.size, 0, none⟩), .int .u64 150] 230)).alloc (.cells #[.pointer (some ⟨13, 144, none⟩), .pointer (some ⟨w.heap.size, 0, none⟩), .int .u64 150] 230)).alloc (.cells #[.pointer (some e)] 135)).setCell t (.pointer (some e)) = w' := by
  have x101 := @run_callFunc_extern Tryz.prog 101 _ (fun args => ReflectliteValue.unpack (args.getD 0 (.tuple #[]))) Tryz.func101 (by kernel_rfl) (by kernel_rfl) (by kernel_rfl) (by kernel_rfl)
  have x102 := @run_callFunc_extern Tryz.prog 102 _ (ReflectliteValue.methodAny (ReflectliteValue.valueError "reflectlite.Value.Type" 0) (fun t _ _ _ => ReflectliteType.toType t)) Tryz.func102 (by kernel_rfl) (by kernel_rfl) (by kernel_rfl) (by kernel_rfl)
  have x103 := @run_callFunc_extern Tryz.prog 103 _ (ReflectliteValue.method (ReflectliteValue.valueError "reflectlite.Value.IsNil" 0) ReflectliteValue.isNil) Tryz.func103 (by kernel_rfl) (by kernel_rfl) (by kernel_rfl) (by kernel_rfl)
  have x215 := @run_callFunc_extern Tryz.prog 215 _ (ReflectliteType.abiMethod fun t => do pure (.int .u8 (← Rtype.kind t))) Tryz.func215 (by kernel_rfl) (by kernel_rfl) (by kernel_rfl) (by kernel_rfl)
  have x230 := @run_callFunc_extern Tryz.prog 230 _ (ReflectliteType.method ReflectliteType.elem) Tryz.func230 (by kernel_rfl) (by kernel_rfl) (by kernel_rfl) (by kernel_rfl)
  have x231 := @run_callFunc_extern Tryz.prog 231 _ (ReflectliteType.relation "Implements" ReflectliteType.implements_) Tryz.func231 (by kernel_rfl) (by kernel_rfl) (by kernel_rfl) (by kernel_rfl)
  have x105 := @run_callFunc_extern Tryz.prog 105 _ (ReflectliteType.typeOf) Tryz.func105 (by kernel_rfl) (by kernel_rfl) (by kernel_rfl) (by kernel_rfl)
  have x228 := @run_callFunc_extern Tryz.prog 228 _ (ReflectliteType.relation "AssignableTo" ReflectliteType.assignableTo) Tryz.func228 (by kernel_rfl) (by kernel_rfl) (by kernel_rfl) (by kernel_rfl)
  have x144 := @run_callFunc_extern Tryz.prog 144 _ (ReflectliteValue.method (ReflectliteValue.valueError "reflectlite.Value.Elem" 0) ReflectliteValue.elem) Tryz.func144 (by kernel_rfl) (by kernel_rfl) (by kernel_rfl) (by kernel_rfl)
  have x145 := @run_callFunc_extern Tryz.prog 145 _ (ReflectliteValue.set) Tryz.func145 (by kernel_rfl) (by kernel_rfl) (by kernel_rfl) (by kernel_rfl)
  have tO := typeOfSyn
  have a25 := asgSynSyn
  have v25 := valueOfESyn
  have f6 := valueOfTSyn
  have f7 := typeTSyn
  have mK := mKind
  have mE := mElem
  have mI := mImplements
  have mA := mAssignableTo
  have k27 := kindTSyn
  have k25 := kindESyn
  have e27 := elemTSyn
  have i25 := implementsSyn
  have n8 := isNilTSyn ⟨w.heap.size, 0, none⟩ t ((w.alloc (.cells #[.pointer (some t)] 144)).alloc (.cells #[.pointer (some ⟨13, 144, none⟩), .pointer (some ⟨w.heap.size, 0, none⟩), .int .u64 150] 230)) (by simp)
  have hlt : 8 < w.heap.size := by
    rcases Nat.lt_or_ge 8 w.heap.size with h | h
    · exact h
    · simp [World.cell?, Array.getElem?_eq_none h] at hg
  have hg2 : ((w.alloc (.cells #[.pointer (some t)] 144)).alloc (.cells #[.pointer (some ⟨13, 144, none⟩), .pointer (some ⟨w.heap.size, 0, none⟩), .int .u64 150] 230)).cell? ⟨8, 0, none⟩ = some (.iface 286 (.agg #[.pointer (some ⟨13, 61, none⟩)])) := by
    rw [World.cell?_alloc_lt _ _ ⟨8, 0, none⟩ (by simp; omega), World.cell?_alloc_lt _ _ ⟨8, 0, none⟩ hlt]; exact hg
  have htl : t.block < w.heap.size := by
    rcases Nat.lt_or_ge t.block w.heap.size with h | h
    · exact h
    · simp [World.cell?, Array.getElem?_eq_none h] at ht0
  have el := elemVSyn ⟨w.heap.size, 0, none⟩ t (((w.alloc (.cells #[.pointer (some t)] 144)).alloc (.cells #[.pointer (some ⟨13, 144, none⟩), .pointer (some ⟨w.heap.size, 0, none⟩), .int .u64 150] 230)).alloc (.cells #[.pointer (some ⟨13, 144, none⟩), .pointer (some ⟨w.heap.size, 0, none⟩), .int .u64 150] 230)) (by rw [World.cell?_alloc_lt _ _ ⟨w.heap.size, 0, none⟩ (by simp; omega)]; simp)
  have st := setSyn t ⟨w.heap.size + 1 + 1 + 1, 0, none⟩ e old ((((w.alloc (.cells #[.pointer (some t)] 144)).alloc (.cells #[.pointer (some ⟨13, 144, none⟩), .pointer (some ⟨w.heap.size, 0, none⟩), .int .u64 150] 230)).alloc (.cells #[.pointer (some ⟨13, 144, none⟩), .pointer (some ⟨w.heap.size, 0, none⟩), .int .u64 150] 230)).alloc (.cells #[.pointer (some e)] 135))
    (by rw [World.cell?_alloc_at _ _ _ _ (by simp)]; rfl)
    (by rw [World.cell?_alloc_lt _ _ t (by simp; omega), World.cell?_alloc_lt _ _ t (by simp; omega), World.cell?_alloc_lt _ _ t (by simp; omega), World.cell?_alloc_lt _ _ t htl]; exact ht0)
    (by rw [World.frozen?_alloc_old _ _ t (by simp; omega), World.frozen?_alloc_old _ _ t (by simp; omega), World.frozen?_alloc_old _ _ t (by simp; omega), World.frozen?_alloc_old _ _ t (Nat.ne_of_lt htl)]; exact hf0)
  go_enter Tryz.func58, Tryz.ntmps58
  go_wp2
  refine wp_loop_rounds 1 ?_
  rw [rounds_succ]
  go_wp2
  go_ret
  exact ⟨rfl, rfl⟩

theorem as_nilUnb (t : Value) (w : World) :
    Calls Tryz.prog 58 #[.nilIface, t] w fun e w' => e = .returned (.bool false) ∧ w = w' := by
  go_enter Tryz.func58, Tryz.ntmps58
  go_wp2
  go_ret
  exact ⟨rfl, rfl⟩
set_option maxHeartbeats 4000000 in
theorem as_hitUnb (e t : Addr) (old : Value) (w : World) (hg : w.cell? ⟨8, 0, none⟩ = some (.iface 286 (.agg #[.pointer (some ⟨13, 61, none⟩)]))) (ht0 : w.cell? t = some old) (hf0 : w.frozen? t = false) :
    Calls Tryz.prog 58 #[.iface 136 (.pointer (some e)), .iface 147 (.pointer (some t))] w fun ev w' => ev = .returned (.bool true) ∧ ((((w.alloc (.cells #[.pointer (some t)] 147)).alloc (.cells #[.pointer (some ⟨13, 147, none⟩), .pointer (some ⟨w.heap.size, 0, none⟩), .int .u64 150] 230)).alloc (.cells #[.pointer (some ⟨13, 147, none⟩), .pointer (some ⟨w.heap.size, 0, none⟩), .int .u64 150] 230)).alloc (.cells #[.pointer (some e)] 136)).setCell t (.pointer (some e)) = w' := by
  have x101 := @run_callFunc_extern Tryz.prog 101 _ (fun args => ReflectliteValue.unpack (args.getD 0 (.tuple #[]))) Tryz.func101 (by kernel_rfl) (by kernel_rfl) (by kernel_rfl) (by kernel_rfl)
  have x102 := @run_callFunc_extern Tryz.prog 102 _ (ReflectliteValue.methodAny (ReflectliteValue.valueError "reflectlite.Value.Type" 0) (fun t _ _ _ => ReflectliteType.toType t)) Tryz.func102 (by kernel_rfl) (by kernel_rfl) (by kernel_rfl) (by kernel_rfl)
  have x103 := @run_callFunc_extern Tryz.prog 103 _ (ReflectliteValue.method (ReflectliteValue.valueError "reflectlite.Value.IsNil" 0) ReflectliteValue.isNil) Tryz.func103 (by kernel_rfl) (by kernel_rfl) (by kernel_rfl) (by kernel_rfl)
  have x215 := @run_callFunc_extern Tryz.prog 215 _ (ReflectliteType.abiMethod fun t => do pure (.int .u8 (← Rtype.kind t))) Tryz.func215 (by kernel_rfl) (by kernel_rfl) (by kernel_rfl) (by kernel_rfl)
  have x230 := @run_callFunc_extern Tryz.prog 230 _ (ReflectliteType.method ReflectliteType.elem) Tryz.func230 (by kernel_rfl) (by kernel_rfl) (by kernel_rfl) (by kernel_rfl)
  have x231 := @run_callFunc_extern Tryz.prog 231 _ (ReflectliteType.relation "Implements" ReflectliteType.implements_) Tryz.func231 (by kernel_rfl) (by kernel_rfl) (by kernel_rfl) (by kernel_rfl)
  have x105 := @run_callFunc_extern Tryz.prog 105 _ (ReflectliteType.typeOf) Tryz.func105 (by kernel_rfl) (by kernel_rfl) (by kernel_rfl) (by kernel_rfl)
  have x228 := @run_callFunc_extern Tryz.prog 228 _ (ReflectliteType.relation "AssignableTo" ReflectliteType.assignableTo) Tryz.func228 (by kernel_rfl) (by kernel_rfl) (by kernel_rfl) (by kernel_rfl)
  have x144 := @run_callFunc_extern Tryz.prog 144 _ (ReflectliteValue.method (ReflectliteValue.valueError "reflectlite.Value.Elem" 0) ReflectliteValue.elem) Tryz.func144 (by kernel_rfl) (by kernel_rfl) (by kernel_rfl) (by kernel_rfl)
  have x145 := @run_callFunc_extern Tryz.prog 145 _ (ReflectliteValue.set) Tryz.func145 (by kernel_rfl) (by kernel_rfl) (by kernel_rfl) (by kernel_rfl)
  have tO := typeOfUnb
  have a25 := asgUnbUnb
  have v25 := valueOfEUnb
  have f6 := valueOfTUnb
  have f7 := typeTUnb
  have mK := mKind
  have mE := mElem
  have mI := mImplements
  have mA := mAssignableTo
  have k27 := kindTUnb
  have k25 := kindEUnb
  have e27 := elemTUnb
  have i25 := implementsUnb
  have n8 := isNilTUnb ⟨w.heap.size, 0, none⟩ t ((w.alloc (.cells #[.pointer (some t)] 147)).alloc (.cells #[.pointer (some ⟨13, 147, none⟩), .pointer (some ⟨w.heap.size, 0, none⟩), .int .u64 150] 230)) (by simp)
  have hlt : 8 < w.heap.size := by
    rcases Nat.lt_or_ge 8 w.heap.size with h | h
    · exact h
    · simp [World.cell?, Array.getElem?_eq_none h] at hg
  have hg2 : ((w.alloc (.cells #[.pointer (some t)] 147)).alloc (.cells #[.pointer (some ⟨13, 147, none⟩), .pointer (some ⟨w.heap.size, 0, none⟩), .int .u64 150] 230)).cell? ⟨8, 0, none⟩ = some (.iface 286 (.agg #[.pointer (some ⟨13, 61, none⟩)])) := by
    rw [World.cell?_alloc_lt _ _ ⟨8, 0, none⟩ (by simp; omega), World.cell?_alloc_lt _ _ ⟨8, 0, none⟩ hlt]; exact hg
  have htl : t.block < w.heap.size := by
    rcases Nat.lt_or_ge t.block w.heap.size with h | h
    · exact h
    · simp [World.cell?, Array.getElem?_eq_none h] at ht0
  have el := elemVUnb ⟨w.heap.size, 0, none⟩ t (((w.alloc (.cells #[.pointer (some t)] 147)).alloc (.cells #[.pointer (some ⟨13, 147, none⟩), .pointer (some ⟨w.heap.size, 0, none⟩), .int .u64 150] 230)).alloc (.cells #[.pointer (some ⟨13, 147, none⟩), .pointer (some ⟨w.heap.size, 0, none⟩), .int .u64 150] 230)) (by rw [World.cell?_alloc_lt _ _ ⟨w.heap.size, 0, none⟩ (by simp; omega)]; simp)
  have st := setUnb t ⟨w.heap.size + 1 + 1 + 1, 0, none⟩ e old ((((w.alloc (.cells #[.pointer (some t)] 147)).alloc (.cells #[.pointer (some ⟨13, 147, none⟩), .pointer (some ⟨w.heap.size, 0, none⟩), .int .u64 150] 230)).alloc (.cells #[.pointer (some ⟨13, 147, none⟩), .pointer (some ⟨w.heap.size, 0, none⟩), .int .u64 150] 230)).alloc (.cells #[.pointer (some e)] 136))
    (by rw [World.cell?_alloc_at _ _ _ _ (by simp)]; rfl)
    (by rw [World.cell?_alloc_lt _ _ t (by simp; omega), World.cell?_alloc_lt _ _ t (by simp; omega), World.cell?_alloc_lt _ _ t (by simp; omega), World.cell?_alloc_lt _ _ t htl]; exact ht0)
    (by rw [World.frozen?_alloc_old _ _ t (by simp; omega), World.frozen?_alloc_old _ _ t (by simp; omega), World.frozen?_alloc_old _ _ t (by simp; omega), World.frozen?_alloc_old _ _ t (Nat.ne_of_lt htl)]; exact hf0)
  go_enter Tryz.func58, Tryz.ntmps58
  go_wp2
  refine wp_loop_rounds 1 ?_
  rw [rounds_succ]
  go_wp2
  go_ret
  exact ⟨rfl, rfl⟩

set_option maxHeartbeats 4000000 in
theorem as_missSynEnv (v : Value) (t : Addr) (w : World) (hg : w.cell? ⟨8, 0, none⟩ = some (.iface 286 (.agg #[.pointer (some ⟨13, 61, none⟩)]))) :
    Calls Tryz.prog 58 #[.iface 135 v, .iface 139 (.pointer (some t))] w fun ev w' => ev = .returned (.bool false) ∧ (((w.alloc (.cells #[.pointer (some t)] 139)).alloc (.cells #[.pointer (some ⟨13, 139, none⟩), .pointer (some ⟨w.heap.size, 0, none⟩), .int .u64 150] 230)).alloc (.cells #[.pointer (some ⟨13, 139, none⟩), .pointer (some ⟨w.heap.size, 0, none⟩), .int .u64 150] 230)) = w' := by
  have x101 := @run_callFunc_extern Tryz.prog 101 _ (fun args => ReflectliteValue.unpack (args.getD 0 (.tuple #[]))) Tryz.func101 (by kernel_rfl) (by kernel_rfl) (by kernel_rfl) (by kernel_rfl)
  have x102 := @run_callFunc_extern Tryz.prog 102 _ (ReflectliteValue.methodAny (ReflectliteValue.valueError "reflectlite.Value.Type" 0) (fun t _ _ _ => ReflectliteType.toType t)) Tryz.func102 (by kernel_rfl) (by kernel_rfl) (by kernel_rfl) (by kernel_rfl)
  have x103 := @run_callFunc_extern Tryz.prog 103 _ (ReflectliteValue.method (ReflectliteValue.valueError "reflectlite.Value.IsNil" 0) ReflectliteValue.isNil) Tryz.func103 (by kernel_rfl) (by kernel_rfl) (by kernel_rfl) (by kernel_rfl)
  have x215 := @run_callFunc_extern Tryz.prog 215 _ (ReflectliteType.abiMethod fun t => do pure (.int .u8 (← Rtype.kind t))) Tryz.func215 (by kernel_rfl) (by kernel_rfl) (by kernel_rfl) (by kernel_rfl)
  have x230 := @run_callFunc_extern Tryz.prog 230 _ (ReflectliteType.method ReflectliteType.elem) Tryz.func230 (by kernel_rfl) (by kernel_rfl) (by kernel_rfl) (by kernel_rfl)
  have x231 := @run_callFunc_extern Tryz.prog 231 _ (ReflectliteType.relation "Implements" ReflectliteType.implements_) Tryz.func231 (by kernel_rfl) (by kernel_rfl) (by kernel_rfl) (by kernel_rfl)
  have x105 := @run_callFunc_extern Tryz.prog 105 _ (ReflectliteType.typeOf) Tryz.func105 (by kernel_rfl) (by kernel_rfl) (by kernel_rfl) (by kernel_rfl)
  have x228 := @run_callFunc_extern Tryz.prog 228 _ (ReflectliteType.relation "AssignableTo" ReflectliteType.assignableTo) Tryz.func228 (by kernel_rfl) (by kernel_rfl) (by kernel_rfl) (by kernel_rfl)
  have tO := typeOfSyn
  have a25 := asgSynEnv
  have nA := noAsSyn
  have nU := noUnwrapSyn
  have nV := noUnwrapsSyn
  have f6 := valueOfTEnv
  have f7 := typeTEnv
  have mK := mKind
  have mE := mElem
  have mI := mImplements
  have mA := mAssignableTo
  have k27 := kindTEnv
  have k25 := kindEEnv
  have e27 := elemTEnv
  have i25 := implementsEnv
  have n8 := isNilTEnv ⟨w.heap.size, 0, none⟩ t ((w.alloc (.cells #[.pointer (some t)] 139)).alloc (.cells #[.pointer (some ⟨13, 139, none⟩), .pointer (some ⟨w.heap.size, 0, none⟩), .int .u64 150] 230)) (by simp)
  have hlt : 8 < w.heap.size := by
    rcases Nat.lt_or_ge 8 w.heap.size with h | h
    · exact h
    · simp [World.cell?, Array.getElem?_eq_none h] at hg
  have hg2 : ((w.alloc (.cells #[.pointer (some t)] 139)).alloc (.cells #[.pointer (some ⟨13, 139, none⟩), .pointer (some ⟨w.heap.size, 0, none⟩), .int .u64 150] 230)).cell? ⟨8, 0, none⟩ = some (.iface 286 (.agg #[.pointer (some ⟨13, 61, none⟩)])) := by
    rw [World.cell?_alloc_lt _ _ ⟨8, 0, none⟩ (by simp; omega), World.cell?_alloc_lt _ _ ⟨8, 0, none⟩ hlt]; exact hg
  go_enter Tryz.func58, Tryz.ntmps58
  go_wp2
  refine wp_loop_rounds 1 ?_
  rw [rounds_succ]
  go_wp2
  go_ret
  exact ⟨rfl, rfl⟩

set_option maxHeartbeats 4000000 in
theorem as_missUnbEnv (v : Value) (t : Addr) (w : World) (hg : w.cell? ⟨8, 0, none⟩ = some (.iface 286 (.agg #[.pointer (some ⟨13, 61, none⟩)]))) :
    Calls Tryz.prog 58 #[.iface 136 v, .iface 139 (.pointer (some t))] w fun ev w' => ev = .returned (.bool false) ∧ (((w.alloc (.cells #[.pointer (some t)] 139)).alloc (.cells #[.pointer (some ⟨13, 139, none⟩), .pointer (some ⟨w.heap.size, 0, none⟩), .int .u64 150] 230)).alloc (.cells #[.pointer (some ⟨13, 139, none⟩), .pointer (some ⟨w.heap.size, 0, none⟩), .int .u64 150] 230)) = w' := by
  have x101 := @run_callFunc_extern Tryz.prog 101 _ (fun args => ReflectliteValue.unpack (args.getD 0 (.tuple #[]))) Tryz.func101 (by kernel_rfl) (by kernel_rfl) (by kernel_rfl) (by kernel_rfl)
  have x102 := @run_callFunc_extern Tryz.prog 102 _ (ReflectliteValue.methodAny (ReflectliteValue.valueError "reflectlite.Value.Type" 0) (fun t _ _ _ => ReflectliteType.toType t)) Tryz.func102 (by kernel_rfl) (by kernel_rfl) (by kernel_rfl) (by kernel_rfl)
  have x103 := @run_callFunc_extern Tryz.prog 103 _ (ReflectliteValue.method (ReflectliteValue.valueError "reflectlite.Value.IsNil" 0) ReflectliteValue.isNil) Tryz.func103 (by kernel_rfl) (by kernel_rfl) (by kernel_rfl) (by kernel_rfl)
  have x215 := @run_callFunc_extern Tryz.prog 215 _ (ReflectliteType.abiMethod fun t => do pure (.int .u8 (← Rtype.kind t))) Tryz.func215 (by kernel_rfl) (by kernel_rfl) (by kernel_rfl) (by kernel_rfl)
  have x230 := @run_callFunc_extern Tryz.prog 230 _ (ReflectliteType.method ReflectliteType.elem) Tryz.func230 (by kernel_rfl) (by kernel_rfl) (by kernel_rfl) (by kernel_rfl)
  have x231 := @run_callFunc_extern Tryz.prog 231 _ (ReflectliteType.relation "Implements" ReflectliteType.implements_) Tryz.func231 (by kernel_rfl) (by kernel_rfl) (by kernel_rfl) (by kernel_rfl)
  have x105 := @run_callFunc_extern Tryz.prog 105 _ (ReflectliteType.typeOf) Tryz.func105 (by kernel_rfl) (by kernel_rfl) (by kernel_rfl) (by kernel_rfl)
  have x228 := @run_callFunc_extern Tryz.prog 228 _ (ReflectliteType.relation "AssignableTo" ReflectliteType.assignableTo) Tryz.func228 (by kernel_rfl) (by kernel_rfl) (by kernel_rfl) (by kernel_rfl)
  have tO := typeOfUnb
  have a25 := asgUnbEnv
  have nA := noAsUnb
  have nU := noUnwrapUnb
  have nV := noUnwrapsUnb
  have f6 := valueOfTEnv
  have f7 := typeTEnv
  have mK := mKind
  have mE := mElem
  have mI := mImplements
  have mA := mAssignableTo
  have k27 := kindTEnv
  have k25 := kindEEnv
  have e27 := elemTEnv
  have i25 := implementsEnv
  have n8 := isNilTEnv ⟨w.heap.size, 0, none⟩ t ((w.alloc (.cells #[.pointer (some t)] 139)).alloc (.cells #[.pointer (some ⟨13, 139, none⟩), .pointer (some ⟨w.heap.size, 0, none⟩), .int .u64 150] 230)) (by simp)
  have hlt : 8 < w.heap.size := by
    rcases Nat.lt_or_ge 8 w.heap.size with h | h
    · exact h
    · simp [World.cell?, Array.getElem?_eq_none h] at hg
  have hg2 : ((w.alloc (.cells #[.pointer (some t)] 139)).alloc (.cells #[.pointer (some ⟨13, 139, none⟩), .pointer (some ⟨w.heap.size, 0, none⟩), .int .u64 150] 230)).cell? ⟨8, 0, none⟩ = some (.iface 286 (.agg #[.pointer (some ⟨13, 61, none⟩)])) := by
    rw [World.cell?_alloc_lt _ _ ⟨8, 0, none⟩ (by simp; omega), World.cell?_alloc_lt _ _ ⟨8, 0, none⟩ hlt]; exact hg
  go_enter Tryz.func58, Tryz.ntmps58
  go_wp2
  refine wp_loop_rounds 1 ?_
  rw [rounds_succ]
  go_wp2
  go_ret
  exact ⟨rfl, rfl⟩

set_option maxHeartbeats 4000000 in
theorem as_missStrEnv (v : Value) (t : Addr) (w : World) (hg : w.cell? ⟨8, 0, none⟩ = some (.iface 286 (.agg #[.pointer (some ⟨13, 61, none⟩)]))) :
    Calls Tryz.prog 58 #[.iface 354 v, .iface 139 (.pointer (some t))] w fun ev w' => ev = .returned (.bool false) ∧ (((w.alloc (.cells #[.pointer (some t)] 139)).alloc (.cells #[.pointer (some ⟨13, 139, none⟩), .pointer (some ⟨w.heap.size, 0, none⟩), .int .u64 150] 230)).alloc (.cells #[.pointer (some ⟨13, 139, none⟩), .pointer (some ⟨w.heap.size, 0, none⟩), .int .u64 150] 230)) = w' := by
  have x101 := @run_callFunc_extern Tryz.prog 101 _ (fun args => ReflectliteValue.unpack (args.getD 0 (.tuple #[]))) Tryz.func101 (by kernel_rfl) (by kernel_rfl) (by kernel_rfl) (by kernel_rfl)
  have x102 := @run_callFunc_extern Tryz.prog 102 _ (ReflectliteValue.methodAny (ReflectliteValue.valueError "reflectlite.Value.Type" 0) (fun t _ _ _ => ReflectliteType.toType t)) Tryz.func102 (by kernel_rfl) (by kernel_rfl) (by kernel_rfl) (by kernel_rfl)
  have x103 := @run_callFunc_extern Tryz.prog 103 _ (ReflectliteValue.method (ReflectliteValue.valueError "reflectlite.Value.IsNil" 0) ReflectliteValue.isNil) Tryz.func103 (by kernel_rfl) (by kernel_rfl) (by kernel_rfl) (by kernel_rfl)
  have x215 := @run_callFunc_extern Tryz.prog 215 _ (ReflectliteType.abiMethod fun t => do pure (.int .u8 (← Rtype.kind t))) Tryz.func215 (by kernel_rfl) (by kernel_rfl) (by kernel_rfl) (by kernel_rfl)
  have x230 := @run_callFunc_extern Tryz.prog 230 _ (ReflectliteType.method ReflectliteType.elem) Tryz.func230 (by kernel_rfl) (by kernel_rfl) (by kernel_rfl) (by kernel_rfl)
  have x231 := @run_callFunc_extern Tryz.prog 231 _ (ReflectliteType.relation "Implements" ReflectliteType.implements_) Tryz.func231 (by kernel_rfl) (by kernel_rfl) (by kernel_rfl) (by kernel_rfl)
  have x105 := @run_callFunc_extern Tryz.prog 105 _ (ReflectliteType.typeOf) Tryz.func105 (by kernel_rfl) (by kernel_rfl) (by kernel_rfl) (by kernel_rfl)
  have x228 := @run_callFunc_extern Tryz.prog 228 _ (ReflectliteType.relation "AssignableTo" ReflectliteType.assignableTo) Tryz.func228 (by kernel_rfl) (by kernel_rfl) (by kernel_rfl) (by kernel_rfl)
  have tO := typeOfStr
  have a25 := asgStrEnv
  have nA := noAsStr
  have nU := noUnwrapStr
  have nV := noUnwrapsStr
  have f6 := valueOfTEnv
  have f7 := typeTEnv
  have mK := mKind
  have mE := mElem
  have mI := mImplements
  have mA := mAssignableTo
  have k27 := kindTEnv
  have k25 := kindEEnv
  have e27 := elemTEnv
  have i25 := implementsEnv
  have n8 := isNilTEnv ⟨w.heap.size, 0, none⟩ t ((w.alloc (.cells #[.pointer (some t)] 139)).alloc (.cells #[.pointer (some ⟨13, 139, none⟩), .pointer (some ⟨w.heap.size, 0, none⟩), .int .u64 150] 230)) (by simp)
  have hlt : 8 < w.heap.size := by
    rcases Nat.lt_or_ge 8 w.heap.size with h | h
    · exact h
    · simp [World.cell?, Array.getElem?_eq_none h] at hg
  have hg2 : ((w.alloc (.cells #[.pointer (some t)] 139)).alloc (.cells #[.pointer (some ⟨13, 139, none⟩), .pointer (some ⟨w.heap.size, 0, none⟩), .int .u64 150] 230)).cell? ⟨8, 0, none⟩ = some (.iface 286 (.agg #[.pointer (some ⟨13, 61, none⟩)])) := by
    rw [World.cell?_alloc_lt _ _ ⟨8, 0, none⟩ (by simp; omega), World.cell?_alloc_lt _ _ ⟨8, 0, none⟩ hlt]; exact hg
  go_enter Tryz.func58, Tryz.ntmps58
  go_wp2
  refine wp_loop_rounds 1 ?_
  rw [rounds_succ]
  go_wp2
  go_ret
  exact ⟨rfl, rfl⟩

set_option maxHeartbeats 4000000 in
theorem as_missUnbSyn (v : Value) (t : Addr) (w : World) (hg : w.cell? ⟨8, 0, none⟩ = some (.iface 286 (.agg #[.pointer (some ⟨13, 61, none⟩)]))) :
    Calls Tryz.prog 58 #[.iface 136 v, .iface 144 (.pointer (some t))] w fun ev w' => ev = .returned (.bool false) ∧ (((w.alloc (.cells #[.pointer (some t)] 144)).alloc (.cells #[.pointer (some ⟨13, 144, none⟩), .pointer (some ⟨w.heap.size, 0, none⟩), .int .u64 150] 230)).alloc (.cells #[.pointer (some ⟨13, 144, none⟩), .pointer (some ⟨w.heap.size, 0, none⟩), .int .u64 150] 230)) = w' := by
  have x101 := @run_callFunc_extern Tryz.prog 101 _ (fun args => ReflectliteValue.unpack (args.getD 0 (.tuple #[]))) Tryz.func101 (by kernel_rfl) (by kernel_rfl) (by kernel_rfl) (by kernel_rfl)
  have x102 := @run_callFunc_extern Tryz.prog 102 _ (ReflectliteValue.methodAny (ReflectliteValue.valueError "reflectlite.Value.Type" 0) (fun t _ _ _ => ReflectliteType.toType t)) Tryz.func102 (by kernel_rfl) (by kernel_rfl) (by kernel_rfl) (by kernel_rfl)
  have x103 := @run_callFunc_extern Tryz.prog 103 _ (ReflectliteValue.method (ReflectliteValue.valueError "reflectlite.Value.IsNil" 0) ReflectliteValue.isNil) Tryz.func103 (by kernel_rfl) (by kernel_rfl) (by kernel_rfl) (by kernel_rfl)
  have x215 := @run_callFunc_extern Tryz.prog 215 _ (ReflectliteType.abiMethod fun t => do pure (.int .u8 (← Rtype.kind t))) Tryz.func215 (by kernel_rfl) (by kernel_rfl) (by kernel_rfl) (by kernel_rfl)
  have x230 := @run_callFunc_extern Tryz.prog 230 _ (ReflectliteType.method ReflectliteType.elem) Tryz.func230 (by kernel_rfl) (by kernel_rfl) (by kernel_rfl) (by kernel_rfl)
  have x231 := @run_callFunc_extern Tryz.prog 231 _ (ReflectliteType.relation "Implements" ReflectliteType.implements_) Tryz.func231 (by kernel_rfl) (by kernel_rfl) (by kernel_rfl) (by kernel_rfl)
  have x105 := @run_callFunc_extern Tryz.prog 105 _ (ReflectliteType.typeOf) Tryz.func105 (by kernel_rfl) (by kernel_rfl) (by kernel_rfl) (by kernel_rfl)
  have x228 := @run_callFunc_extern Tryz.prog 228 _ (ReflectliteType.relation "AssignableTo" ReflectliteType.assignableTo) Tryz.func228 (by kernel_rfl) (by kernel_rfl) (by kernel_rfl) (by kernel_rfl)
  have tO := typeOfUnb
  have a25 := asgUnbSyn
  have nA := noAsUnb
  have nU := noUnwrapUnb
  have nV := noUnwrapsUnb
  have f6 := valueOfTSyn
  have f7 := typeTSyn
  have mK := mKind
  have mE := mElem
  have mI := mImplements
  have mA := mAssignableTo
  have k27 := kindTSyn
  have k25 := kindESyn
  have e27 := elemTSyn
  have i25 := implementsSyn
  have n8 := isNilTSyn ⟨w.heap.size, 0, none⟩ t ((w.alloc (.cells #[.pointer (some t)] 144)).alloc (.cells #[.pointer (some ⟨13, 144, none⟩), .pointer (some ⟨w.heap.size, 0, none⟩), .int .u64 150] 230)) (by simp)
  have hlt : 8 < w.heap.size := by
    rcases Nat.lt_or_ge 8 w.heap.size with h | h
    · exact h
    · simp [World.cell?, Array.getElem?_eq_none h] at hg
  have hg2 : ((w.alloc (.cells #[.pointer (some t)] 144)).alloc (.cells #[.pointer (some ⟨13, 144, none⟩), .pointer (some ⟨w.heap.size, 0, none⟩), .int .u64 150] 230)).cell? ⟨8, 0, none⟩ = some (.iface 286 (.agg #[.pointer (some ⟨13, 61, none⟩)])) := by
    rw [World.cell?_alloc_lt _ _ ⟨8, 0, none⟩ (by simp; omega), World.cell?_alloc_lt _ _ ⟨8, 0, none⟩ hlt]; exact hg
  go_enter Tryz.func58, Tryz.ntmps58
  go_wp2
  refine wp_loop_rounds 1 ?_
  rw [rounds_succ]
  go_wp2
  go_ret
  exact ⟨rfl, rfl⟩

set_option maxHeartbeats 4000000 in
theorem as_missStrSyn (v : Value) (t : Addr) (w : World) (hg : w.cell? ⟨8, 0, none⟩ = some (.iface 286 (.agg #[.pointer (some ⟨13, 61, none⟩)]))) :
    Calls Tryz.prog 58 #[.iface 354 v, .iface 144 (.pointer (some t))] w fun ev w' => ev = .returned (.bool false) ∧ (((w.alloc (.cells #[.pointer (some t)] 144)).alloc (.cells #[.pointer (some ⟨13, 144, none⟩), .pointer (some ⟨w.heap.size, 0, none⟩), .int .u64 150] 230)).alloc (.cells #[.pointer (some ⟨13, 144, none⟩), .pointer (some ⟨w.heap.size, 0, none⟩), .int .u64 150] 230)) = w' := by
  have x101 := @run_callFunc_extern Tryz.prog 101 _ (fun args => ReflectliteValue.unpack (args.getD 0 (.tuple #[]))) Tryz.func101 (by kernel_rfl) (by kernel_rfl) (by kernel_rfl) (by kernel_rfl)
  have x102 := @run_callFunc_extern Tryz.prog 102 _ (ReflectliteValue.methodAny (ReflectliteValue.valueError "reflectlite.Value.Type" 0) (fun t _ _ _ => ReflectliteType.toType t)) Tryz.func102 (by kernel_rfl) (by kernel_rfl) (by kernel_rfl) (by kernel_rfl)
  have x103 := @run_callFunc_extern Tryz.prog 103 _ (ReflectliteValue.method (ReflectliteValue.valueError "reflectlite.Value.IsNil" 0) ReflectliteValue.isNil) Tryz.func103 (by kernel_rfl) (by kernel_rfl) (by kernel_rfl) (by kernel_rfl)
  have x215 := @run_callFunc_extern Tryz.prog 215 _ (ReflectliteType.abiMethod fun t => do pure (.int .u8 (← Rtype.kind t))) Tryz.func215 (by kernel_rfl) (by kernel_rfl) (by kernel_rfl) (by kernel_rfl)
  have x230 := @run_callFunc_extern Tryz.prog 230 _ (ReflectliteType.method ReflectliteType.elem) Tryz.func230 (by kernel_rfl) (by kernel_rfl) (by kernel_rfl) (by kernel_rfl)
  have x231 := @run_callFunc_extern Tryz.prog 231 _ (ReflectliteType.relation "Implements" ReflectliteType.implements_) Tryz.func231 (by kernel_rfl) (by kernel_rfl) (by kernel_rfl) (by kernel_rfl)
  have x105 := @run_callFunc_extern Tryz.prog 105 _ (ReflectliteType.typeOf) Tryz.func105 (by kernel_rfl) (by kernel_rfl) (by kernel_rfl) (by kernel_rfl)
  have x228 := @run_callFunc_extern Tryz.prog 228 _ (ReflectliteType.relation "AssignableTo" ReflectliteType.assignableTo) Tryz.func228 (by kernel_rfl) (by kernel_rfl) (by kernel_rfl) (by kernel_rfl)
  have tO := typeOfStr
  have a25 := asgStrSyn
  have nA := noAsStr
  have nU := noUnwrapStr
  have nV := noUnwrapsStr
  have f6 := valueOfTSyn
  have f7 := typeTSyn
  have mK := mKind
  have mE := mElem
  have mI := mImplements
  have mA := mAssignableTo
  have k27 := kindTSyn
  have k25 := kindESyn
  have e27 := elemTSyn
  have i25 := implementsSyn
  have n8 := isNilTSyn ⟨w.heap.size, 0, none⟩ t ((w.alloc (.cells #[.pointer (some t)] 144)).alloc (.cells #[.pointer (some ⟨13, 144, none⟩), .pointer (some ⟨w.heap.size, 0, none⟩), .int .u64 150] 230)) (by simp)
  have hlt : 8 < w.heap.size := by
    rcases Nat.lt_or_ge 8 w.heap.size with h | h
    · exact h
    · simp [World.cell?, Array.getElem?_eq_none h] at hg
  have hg2 : ((w.alloc (.cells #[.pointer (some t)] 144)).alloc (.cells #[.pointer (some ⟨13, 144, none⟩), .pointer (some ⟨w.heap.size, 0, none⟩), .int .u64 150] 230)).cell? ⟨8, 0, none⟩ = some (.iface 286 (.agg #[.pointer (some ⟨13, 61, none⟩)])) := by
    rw [World.cell?_alloc_lt _ _ ⟨8, 0, none⟩ (by simp; omega), World.cell?_alloc_lt _ _ ⟨8, 0, none⟩ hlt]; exact hg
  go_enter Tryz.func58, Tryz.ntmps58
  go_wp2
  refine wp_loop_rounds 1 ?_
  rw [rounds_succ]
  go_wp2
  go_ret
  exact ⟨rfl, rfl⟩

set_option maxHeartbeats 4000000 in
theorem as_missStrUnb (v : Value) (t : Addr) (w : World) (hg : w.cell? ⟨8, 0, none⟩ = some (.iface 286 (.agg #[.pointer (some ⟨13, 61, none⟩)]))) :
    Calls Tryz.prog 58 #[.iface 354 v, .iface 147 (.pointer (some t))] w fun ev w' => ev = .returned (.bool false) ∧ (((w.alloc (.cells #[.pointer (some t)] 147)).alloc (.cells #[.pointer (some ⟨13, 147, none⟩), .pointer (some ⟨w.heap.size, 0, none⟩), .int .u64 150] 230)).alloc (.cells #[.pointer (some ⟨13, 147, none⟩), .pointer (some ⟨w.heap.size, 0, none⟩), .int .u64 150] 230)) = w' := by
  have x101 := @run_callFunc_extern Tryz.prog 101 _ (fun args => ReflectliteValue.unpack (args.getD 0 (.tuple #[]))) Tryz.func101 (by kernel_rfl) (by kernel_rfl) (by kernel_rfl) (by kernel_rfl)
  have x102 := @run_callFunc_extern Tryz.prog 102 _ (ReflectliteValue.methodAny (ReflectliteValue.valueError "reflectlite.Value.Type" 0) (fun t _ _ _ => ReflectliteType.toType t)) Tryz.func102 (by kernel_rfl) (by kernel_rfl) (by kernel_rfl) (by kernel_rfl)
  have x103 := @run_callFunc_extern Tryz.prog 103 _ (ReflectliteValue.method (ReflectliteValue.valueError "reflectlite.Value.IsNil" 0) ReflectliteValue.isNil) Tryz.func103 (by kernel_rfl) (by kernel_rfl) (by kernel_rfl) (by kernel_rfl)
  have x215 := @run_callFunc_extern Tryz.prog 215 _ (ReflectliteType.abiMethod fun t => do pure (.int .u8 (← Rtype.kind t))) Tryz.func215 (by kernel_rfl) (by kernel_rfl) (by kernel_rfl) (by kernel_rfl)
  have x230 := @run_callFunc_extern Tryz.prog 230 _ (ReflectliteType.method ReflectliteType.elem) Tryz.func230 (by kernel_rfl) (by kernel_rfl) (by kernel_rfl) (by kernel_rfl)
  have x231 := @run_callFunc_extern Tryz.prog 231 _ (ReflectliteType.relation "Implements" ReflectliteType.implements_) Tryz.func231 (by kernel_rfl) (by kernel_rfl) (by kernel_rfl) (by kernel_rfl)
  have x105 := @run_callFunc_extern Tryz.prog 105 _ (ReflectliteType.typeOf) Tryz.func105 (by kernel_rfl) (by kernel_rfl) (by kernel_rfl) (by kernel_rfl)
  have x228 := @run_callFunc_extern Tryz.prog 228 _ (ReflectliteType.relation "AssignableTo" ReflectliteType.assignableTo) Tryz.func228 (by kernel_rfl) (by kernel_rfl) (by kernel_rfl) (by kernel_rfl)
  have tO := typeOfStr
  have a25 := asgStrUnb
  have nA := noAsStr
  have nU := noUnwrapStr
  have nV := noUnwrapsStr
  have f6 := valueOfTUnb
  have f7 := typeTUnb
  have mK := mKind
  have mE := mElem
  have mI := mImplements
  have mA := mAssignableTo
  have k27 := kindTUnb
  have k25 := kindEUnb
  have e27 := elemTUnb
  have i25 := implementsUnb
  have n8 := isNilTUnb ⟨w.heap.size, 0, none⟩ t ((w.alloc (.cells #[.pointer (some t)] 147)).alloc (.cells #[.pointer (some ⟨13, 147, none⟩), .pointer (some ⟨w.heap.size, 0, none⟩), .int .u64 150] 230)) (by simp)
  have hlt : 8 < w.heap.size := by
    rcases Nat.lt_or_ge 8 w.heap.size with h | h
    · exact h
    · simp [World.cell?, Array.getElem?_eq_none h] at hg
  have hg2 : ((w.alloc (.cells #[.pointer (some t)] 147)).alloc (.cells #[.pointer (some ⟨13, 147, none⟩), .pointer (some ⟨w.heap.size, 0, none⟩), .int .u64 150] 230)).cell? ⟨8, 0, none⟩ = some (.iface 286 (.agg #[.pointer (some ⟨13, 61, none⟩)])) := by
    rw [World.cell?_alloc_lt _ _ ⟨8, 0, none⟩ (by simp; omega), World.cell?_alloc_lt _ _ ⟨8, 0, none⟩ hlt]; exact hg
  go_enter Tryz.func58, Tryz.ntmps58
  go_wp2
  refine wp_loop_rounds 1 ?_
  rw [rounds_succ]
  go_wp2
  go_ret
  exact ⟨rfl, rfl⟩
end Go.Proofs.YtpbplpnifjbkoabGreatDoor

namespace Go.Proofs.YtpbplpnifjbkoabGreatDoor
open Go.RowKit Go.Extern.Stop Go.Stop Go.Extern


set_option maxHeartbeats 4000000 in
theorem as_envSyn (pb : Nat) (e t : Addr) (old : Value) (w : World) (hg : w.cell? ⟨8, 0, none⟩ = some (.iface 286 (.agg #[.pointer (some ⟨13, 61, none⟩)]))) (h1 : w.cell? ⟨pb, 1, none⟩ = some (.iface 135 (.pointer (some e)))) (ht0 : w.cell? t = some old) (hf0 : w.frozen? t = false) :
    Calls Tryz.prog 58 #[.iface 137 (.pointer (some ⟨pb, 0, none⟩)), .iface 144 (.pointer (some t))] w fun ev w' => ev = .returned (.bool true) ∧ ((((w.alloc (.cells #[.pointer (some t)] 144)).alloc (.cells #[.pointer (some ⟨13, 144, none⟩), .pointer (some ⟨w.heap.size, 0, none⟩), .int .u64 150] 230)).alloc (.cells #[.pointer (some ⟨13, 144, none⟩), .pointer (some ⟨w.heap.size, 0, none⟩), .int .u64 150] 230)).alloc (.cells #[.pointer (some e)] 135)).setCell t (.pointer (some e)) = w' := by
  have x101 := @run_callFunc_extern Tryz.prog 101 _ (fun args => ReflectliteValue.unpack (args.getD 0 (.tuple #[]))) Tryz.func101 (by kernel_rfl) (by kernel_rfl) (by kernel_rfl) (by kernel_rfl)
  have x102 := @run_callFunc_extern Tryz.prog 102 _ (ReflectliteValue.methodAny (ReflectliteValue.valueError "reflectlite.Value.Type" 0) (fun t _ _ _ => ReflectliteType.toType t)) Tryz.func102 (by kernel_rfl) (by kernel_rfl) (by kernel_rfl) (by kernel_rfl)
  have x103 := @run_callFunc_extern Tryz.prog 103 _ (ReflectliteValue.method (ReflectliteValue.valueError "reflectlite.Value.IsNil" 0) ReflectliteValue.isNil) Tryz.func103 (by kernel_rfl) (by kernel_rfl) (by kernel_rfl) (by kernel_rfl)
  have x215 := @run_callFunc_extern Tryz.prog 215 _ (ReflectliteType.abiMethod fun t => do pure (.int .u8 (← Rtype.kind t))) Tryz.func215 (by kernel_rfl) (by kernel_rfl) (by kernel_rfl) (by kernel_rfl)
  have x230 := @run_callFunc_extern Tryz.prog 230 _ (ReflectliteType.method ReflectliteType.elem) Tryz.func230 (by kernel_rfl) (by kernel_rfl) (by kernel_rfl) (by kernel_rfl)
  have x231 := @run_callFunc_extern Tryz.prog 231 _ (ReflectliteType.relation "Implements" ReflectliteType.implements_) Tryz.func231 (by kernel_rfl) (by kernel_rfl) (by kernel_rfl) (by kernel_rfl)
  have x105 := @run_callFunc_extern Tryz.prog 105 _ (ReflectliteType.typeOf) Tryz.func105 (by kernel_rfl) (by kernel_rfl) (by kernel_rfl) (by kernel_rfl)
  have x228 := @run_callFunc_extern Tryz.prog 228 _ (ReflectliteType.relation "AssignableTo" ReflectliteType.assignableTo) Tryz.func228 (by kernel_rfl) (by kernel_rfl) (by kernel_rfl) (by kernel_rfl)
  have x144 := @run_callFunc_extern Tryz.prog 144 _ (ReflectliteValue.method (ReflectliteValue.valueError "reflectlite.Value.Elem" 0) ReflectliteValue.elem) Tryz.func144 (by kernel_rfl) (by kernel_rfl) (by kernel_rfl) (by kernel_rfl)
  have x145 := @run_callFunc_extern Tryz.prog 145 _ (ReflectliteValue.set) Tryz.func145 (by kernel_rfl) (by kernel_rfl) (by kernel_rfl) (by kernel_rfl)
  have tO := typeOfSyn
  have tOE := typeOfEnv
  have a25 := asgSynSyn
  have a26 := asgEnvSyn
  have v25 := valueOfESyn
  have nA := noAsEnv
  have uW := hasUnwrapEnv
  have mU := mUnwrap
  have f6 := valueOfTSyn
  have f7 := typeTSyn
  have mK := mKind
  have mE := mElem
  have mI := mImplements
  have mA := mAssignableTo
  have k27 := kindTSyn
  have k25 := kindESyn
  have e27 := elemTSyn
  have i25 := implementsSyn
  have n8 := isNilTSyn ⟨w.heap.size, 0, none⟩ t ((w.alloc (.cells #[.pointer (some t)] 144)).alloc (.cells #[.pointer (some ⟨13, 144, none⟩), .pointer (some ⟨w.heap.size, 0, none⟩), .int .u64 150] 230)) (by simp)
  have hlt : 8 < w.heap.size := by
    rcases Nat.lt_or_ge 8 w.heap.size with h | h
    · exact h
    · simp [World.cell?, Array.getElem?_eq_none h] at hg
  have hg2 : ((w.alloc (.cells #[.pointer (some t)] 144)).alloc (.cells #[.pointer (some ⟨13, 144, none⟩), .pointer (some ⟨w.heap.size, 0, none⟩), .int .u64 150] 230)).cell? ⟨8, 0, none⟩ = some (.iface 286 (.agg #[.pointer (some ⟨13, 61, none⟩)])) := by
    rw [World.cell?_alloc_lt _ _ ⟨8, 0, none⟩ (by simp; omega), World.cell?_alloc_lt _ _ ⟨8, 0, none⟩ hlt]; exact hg
  have htl : t.block < w.heap.size := by
    rcases Nat.lt_or_ge t.block w.heap.size with h | h
    · exact h
    · simp [World.cell?, Array.getElem?_eq_none h] at ht0
  have hpl : pb < w.heap.size := by
    rcases Nat.lt_or_ge pb w.heap.size with h | h
    · exact h
    · simp [World.cell?, Array.getElem?_eq_none h] at h1
  have h3 : (((w.alloc (.cells #[.pointer (some t)] 144)).alloc (.cells #[.pointer (some ⟨13, 144, none⟩), .pointer (some ⟨w.heap.size, 0, none⟩), .int .u64 150] 230)).alloc (.cells #[.pointer (some ⟨13, 144, none⟩), .pointer (some ⟨w.heap.size, 0, none⟩), .int .u64 150] 230)).cell? ⟨pb, 1, none⟩ = some (.iface 135 (.pointer (some e))) := by
    rw [World.cell?_alloc_lt _ _ ⟨pb, 1, none⟩ (by simp; omega), World.cell?_alloc_lt _ _ ⟨pb, 1, none⟩ (by simp; omega), World.cell?_alloc_lt _ _ ⟨pb, 1, none⟩ hpl]; exact h1
  have el := elemVSyn ⟨w.heap.size, 0, none⟩ t (((w.alloc (.cells #[.pointer (some t)] 144)).alloc (.cells #[.pointer (some ⟨13, 144, none⟩), .pointer (some ⟨w.heap.size, 0, none⟩), .int .u64 150] 230)).alloc (.cells #[.pointer (some ⟨13, 144, none⟩), .pointer (some ⟨w.heap.size, 0, none⟩), .int .u64 150] 230)) (by rw [World.cell?_alloc_lt _ _ ⟨w.heap.size, 0, none⟩ (by simp; omega)]; simp)
  have st := setSyn t ⟨w.heap.size + 1 + 1 + 1, 0, none⟩ e old ((((w.alloc (.cells #[.pointer (some t)] 144)).alloc (.cells #[.pointer (some ⟨13, 144, none⟩), .pointer (some ⟨w.heap.size, 0, none⟩), .int .u64 150] 230)).alloc (.cells #[.pointer (some ⟨13, 144, none⟩), .pointer (some ⟨w.heap.size, 0, none⟩), .int .u64 150] 230)).alloc (.cells #[.pointer (some e)] 135))
    (by rw [World.cell?_alloc_at _ _ _ _ (by simp)]; rfl)
    (by rw [World.cell?_alloc_lt _ _ t (by simp; omega), World.cell?_alloc_lt _ _ t (by simp; omega), World.cell?_alloc_lt _ _ t (by simp; omega), World.cell?_alloc_lt _ _ t htl]; exact ht0)
    (by rw [World.frozen?_alloc_old _ _ t (by simp; omega), World.frozen?_alloc_old _ _ t (by simp; omega), World.frozen?_alloc_old _ _ t (by simp; omega), World.frozen?_alloc_old _ _ t (Nat.ne_of_lt htl)]; exact hf0)
  go_enter Tryz.func58, Tryz.ntmps58
  go_wp2
  refine wp_loop_rounds 2 ?_
  rw [rounds_succ]
  go_wp2
  rw [rounds_succ]
  go_wp2
  go_ret
  exact ⟨rfl, rfl⟩
end Go.Proofs.YtpbplpnifjbkoabGreatDoor

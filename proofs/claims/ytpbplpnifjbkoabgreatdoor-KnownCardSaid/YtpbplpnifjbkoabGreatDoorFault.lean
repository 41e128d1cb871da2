/-
  plain.fault and infer.Show, plain.Show: by contracts.
-/
import Derived.Test.YtpbplpnifjbkoabGreatDoorShw
import Derived.Test.YtpbplpnifjbkoabGreatDoorAsx
namespace Go.Proofs.YtpbplpnifjbkoabGreatDoor
open Go.RowKit

abbrev faultV (what at_ : Int) (s : ByteArray) (inner ia : Int) : Value := .agg #[.int .i64 what, .int .i64 at_, .string s, .int .i64 inner, .int .i64 ia]

theorem missSynEnv {a : Nat → Addr} {B : Nat} {w : World} (hG : Gl a B w) (v : Value) (t : Addr) : Calls Tryz.prog 58 #[.iface 135 v, .iface 139 (.pointer (some t))] w fun ev w' => ev = .returned (.bool false) ∧ Keeps [] w w' := by
  refine (as_missSynEnv v t w hG.ty).mono ?_
  rintro ev w' ⟨rfl, rfl⟩
  exact ⟨rfl, (((Keeps.refl [] w).alloc _).alloc _).alloc _⟩
theorem missUnbEnv {a : Nat → Addr} {B : Nat} {w : World} (hG : Gl a B w) (v : Value) (t : Addr) : Calls Tryz.prog 58 #[.iface 136 v, .iface 139 (.pointer (some t))] w fun ev w' => ev = .returned (.bool false) ∧ Keeps [] w w' := by
  refine (as_missUnbEnv v t w hG.ty).mono ?_
  rintro ev w' ⟨rfl, rfl⟩
  exact ⟨rfl, (((Keeps.refl [] w).alloc _).alloc _).alloc _⟩
theorem missStrEnv {a : Nat → Addr} {B : Nat} {w : World} (hG : Gl a B w) (v : Value) (t : Addr) : Calls Tryz.prog 58 #[.iface 354 v, .iface 139 (.pointer (some t))] w fun ev w' => ev = .returned (.bool false) ∧ Keeps [] w w' := by
  refine (as_missStrEnv v t w hG.ty).mono ?_
  rintro ev w' ⟨rfl, rfl⟩
  exact ⟨rfl, (((Keeps.refl [] w).alloc _).alloc _).alloc _⟩
theorem missUnbSyn {a : Nat → Addr} {B : Nat} {w : World} (hG : Gl a B w) (v : Value) (t : Addr) : Calls Tryz.prog 58 #[.iface 136 v, .iface 144 (.pointer (some t))] w fun ev w' => ev = .returned (.bool false) ∧ Keeps [] w w' := by
  refine (as_missUnbSyn v t w hG.ty).mono ?_
  rintro ev w' ⟨rfl, rfl⟩
  exact ⟨rfl, (((Keeps.refl [] w).alloc _).alloc _).alloc _⟩
theorem missStrSyn {a : Nat → Addr} {B : Nat} {w : World} (hG : Gl a B w) (v : Value) (t : Addr) : Calls Tryz.prog 58 #[.iface 354 v, .iface 144 (.pointer (some t))] w fun ev w' => ev = .returned (.bool false) ∧ Keeps [] w w' := by
  refine (as_missStrSyn v t w hG.ty).mono ?_
  rintro ev w' ⟨rfl, rfl⟩
  exact ⟨rfl, (((Keeps.refl [] w).alloc _).alloc _).alloc _⟩
theorem missStrUnb {a : Nat → Addr} {B : Nat} {w : World} (hG : Gl a B w) (v : Value) (t : Addr) : Calls Tryz.prog 58 #[.iface 354 v, .iface 147 (.pointer (some t))] w fun ev w' => ev = .returned (.bool false) ∧ Keeps [] w w' := by
  refine (as_missStrUnb v t w hG.ty).mono ?_
  rintro ev w' ⟨rfl, rfl⟩
  exact ⟨rfl, (((Keeps.refl [] w).alloc _).alloc _).alloc _⟩
theorem hitSyn {a : Nat → Addr} {B : Nat} {w : World} (hG : Gl a B w) (e : Addr) (b : Nat) (old : Value) (T : TypeId) (hb : w.heap[b]? = some (.cells #[old] T (0, 0))) :
    Calls Tryz.prog 58 #[.iface 135 (.pointer (some e)), .iface 144 (.pointer (some ⟨b, 0, none⟩))] w fun ev w' => ev = .returned (.bool true) ∧ w'.heap[b]? = some (.cells #[.pointer (some e)] T (0, 0)) ∧ Keeps [b] w w' := by
  refine (as_hitSyn e ⟨b, 0, none⟩ old w hG.ty (cell_of_block hb 0) (free_of_block hb 0)).mono ?_
  rintro ev w' ⟨rfl, rfl⟩
  refine ⟨rfl, ?_, ?_⟩
  · exact block_setCell (block_alloc_old (block_alloc_old (block_alloc_old (block_alloc_old hb)))) 0 _
  · exact (((((Keeps.refl [b] w).alloc _).alloc _).alloc _).alloc _).setCell (Or.inl (by simp)) _

theorem Gl.keeps {a : Nat → Addr} {B : Nat} {w w' : World} (hG : Gl a B w) {M : List Nat} (hk : Keeps M w w') (hM : ∀ m ∈ M, B ≤ m) : Gl a B w' := hG.below (hk.below hG.hi hM)

/-- The start of fault: its four variables. -/
structure Fv (w W : World) : Prop where
  kp : Keeps [] w W
  b0 : W.heap[w.heap.size]? = some (.cells #[.int .i64 0, .int .i64 0, .string ⟨#[]⟩, .int .i64 0, .int .i64 0] 26 (0, 0))
  b1 : W.heap[w.heap.size + 1]? = some (.cells #[.pointer none] 135 (0, 0))
  b2 : W.heap[w.heap.size + 2]? = some (.cells #[.pointer none] 136 (0, 0))
  b3 : W.heap[w.heap.size + 3]? = some (.cells #[.pointer none] 137 (0, 0))
theorem Fv.start (w : World) : Fv w ((((w.alloc (.cells #[.int .i64 0, .int .i64 0, .string ⟨#[]⟩, .int .i64 0, .int .i64 0] 26)).alloc (.cells #[.pointer none] 135)).alloc (.cells #[.pointer none] 136)).alloc (.cells #[.pointer none] 137)) := by
  refine ⟨((((Keeps.refl [] w).alloc _).alloc _).alloc _).alloc _, block_alloc_old (block_alloc_old (block_alloc_old (block_alloc _ _))), ?_, ?_, ?_⟩
  · exact block_alloc_old (block_alloc_old (by have := block_alloc (w.alloc (.cells #[.int .i64 0, .int .i64 0, .string ⟨#[]⟩, .int .i64 0, .int .i64 0] 26)) (.cells #[.pointer none] 135); simpa using this))
  · exact block_alloc_old (by have := block_alloc ((w.alloc (.cells #[.int .i64 0, .int .i64 0, .string ⟨#[]⟩, .int .i64 0, .int .i64 0] 26)).alloc (.cells #[.pointer none] 135)) (.cells #[.pointer none] 136); simpa using this)
  · have := block_alloc (((w.alloc (.cells #[.int .i64 0, .int .i64 0, .string ⟨#[]⟩, .int .i64 0, .int .i64 0] 26)).alloc (.cells #[.pointer none] 135)).alloc (.cells #[.pointer none] 136)) (.cells #[.pointer none] 137); simpa using this
theorem Fv.step {w W W' : World} (h : Fv w W) (hk : Keeps [] W W') : Fv w W' := ⟨h.kp.trans0 hk, hk.some h.b0 (by simp), hk.some h.b1 (by simp), hk.some h.b2 (by simp), hk.some h.b3 (by simp)⟩

set_option maxRecDepth 100000 in
set_option maxHeartbeats 2000000 in
theorem fault_nil (w : World) : Calls Tryz.prog 27 #[.nilIface] w fun e w' => e = .returned (faultV 0 0 ⟨#[]⟩ 0 0) ∧ Keeps [] w w' := by
  go_enter Tryz.func27, Tryz.ntmps27
  go_wp2_with fail
  refine (as_nilEnv _ _).mono ?_
  rintro e w1 ⟨rfl, rfl⟩
  go_wp2_with fail
  refine bodyPost_ret (v := faultV 0 0 ⟨#[]⟩ 0 0) ?_ rfl ?_
  · simp [results, Tryz.results27, go_sem]
  · exact ⟨rfl, ((((Keeps.refl [] w).alloc _).alloc _).alloc _).alloc _⟩

set_option maxRecDepth 100000 in
set_option maxHeartbeats 4000000 in
theorem fault_syn {a : Nat → Addr} {B : Nat} (w : World) (hG : Gl a B w) (c p : Nat) (h : w.heap[c]? = some (.cells #[.int .i64 p] 146 (0, 0))) :
    Calls Tryz.prog 27 #[.iface 135 (.pointer (some ⟨c, 0, none⟩))] w fun e w' => e = .returned (faultV 2 p ⟨#[]⟩ 0 0) ∧ Keeps [] w w' := by
  have HG := Lib.hid hG
  have HH := Lib.hid h
  have hlt : c < w.heap.size := lt_of_some h
  clear hG h
  go_enter Tryz.func27, Tryz.ntmps27
  go_wp2_with fail
  have hv := Fv.start w
  have e2 : w.heap.size + 1 + 1 = w.heap.size + 2 := rfl
  have e3 : w.heap.size + 1 + 1 + 1 = w.heap.size + 3 := rfl
  simp only [e2, e3]
  revert hv
  generalize ((((w.alloc (.cells #[.int .i64 0, .int .i64 0, .string ⟨#[]⟩, .int .i64 0, .int .i64 0] 26)).alloc (.cells #[.pointer none] 135)).alloc (.cells #[.pointer none] 136)).alloc (.cells #[.pointer none] 137)) = W0
  intro hv
  have HV := Lib.hid hv
  clear hv e2 e3
  refine (missSynEnv (HG.out.keeps HV.out.kp (by simp)) _ _).mono ?_
  rintro e w1 ⟨rfl, hk⟩
  have HV1 := Lib.hid (HV.out.step hk)
  clear hk HV
  go_wp2_with fail
  refine (hitSyn (HG.out.keeps HV1.out.kp (by simp)) _ _ _ _ HV1.out.b1).mono ?_
  rintro e w2 ⟨rfl, hb, hk⟩
  have c1 : w2.cell? ⟨w.heap.size + 1, 0, none⟩ = some (.pointer (some ⟨c, 0, none⟩)) := cell_of_block hb 0
  have HK := Lib.hid (show Keeps [] w w2 from HV1.out.kp.trans hk (by simp))
  have cc : w2.cell? ⟨c, 0, none⟩ = some (.int .i64 p) := cell_of_block (HK.out.some HH.out (by simp)) 0
  have hb0 := hk.some HV1.out.b0 (by simp)
  have r0 := cell_of_block hb0 0
  have r1 := cell_of_block hb0 1
  have r2 := cell_of_block hb0 2
  have r3 := cell_of_block hb0 3
  have r4 := cell_of_block hb0 4
  have f0 := free_of_block hb0 0
  have f1 := free_of_block hb0 1
  have f2 := free_of_block hb0 2
  have f3 := free_of_block hb0 3
  have f4 := free_of_block hb0 4
  clear hb hk hb0
  go_wp2_with fail
  refine bodyPost_ret (v := faultV 2 p ⟨#[]⟩ 0 0) ?_ rfl ?_
  · simp [results, Tryz.results27, go_sem, r0, r1, r2, r3, r4]
  · exact ⟨rfl, by repeat (first | exact HK.out | refine Keeps.setCell ?_ (Or.inr (Nat.le_refl _)) _)⟩
end Go.Proofs.YtpbplpnifjbkoabGreatDoor

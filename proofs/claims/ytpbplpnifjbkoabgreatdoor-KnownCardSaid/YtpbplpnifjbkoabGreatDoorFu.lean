/-
  plain.fault at the two errors with a name, by contracts.
-/
import Derived.Test.YtpbplpnifjbkoabGreatDoorFaults
import Derived.Test.YtpbplpnifjbkoabGreatDoorIs
import Derived.Test.YtpbplpnifjbkoabGreatDoorPlainShow
namespace Go.Proofs.YtpbplpnifjbkoabGreatDoor
open Go.RowKit

theorem hitUnb {a : Nat → Addr} {B : Nat} {w : World} (hG : Gl a B w) (e : Addr) (b : Nat) (old : Value) (T : TypeId) (hb : w.heap[b]? = some (.cells #[old] T (0, 0))) :
    Calls Tryz.prog 58 #[.iface 136 (.pointer (some e)), .iface 147 (.pointer (some ⟨b, 0, none⟩))] w fun ev w' => ev = .returned (.bool true) ∧ w'.heap[b]? = some (.cells #[.pointer (some e)] T (0, 0)) ∧ Keeps [b] w w' := by
  refine (as_hitUnb e ⟨b, 0, none⟩ old w hG.ty (cell_of_block hb 0) (free_of_block hb 0)).mono ?_
  rintro ev w' ⟨rfl, rfl⟩
  refine ⟨rfl, ?_, ?_⟩
  · exact block_setCell (block_alloc_old (block_alloc_old (block_alloc_old (block_alloc_old hb)))) 0 _
  · exact (((((Keeps.refl [b] w).alloc _).alloc _).alloc _).alloc _).setCell (Or.inl (by simp)) _
theorem hitEnv {a : Nat → Addr} {B : Nat} {w : World} (hG : Gl a B w) (e : Addr) (b : Nat) (old : Value) (T : TypeId) (hb : w.heap[b]? = some (.cells #[old] T (0, 0))) :
    Calls Tryz.prog 58 #[.iface 137 (.pointer (some e)), .iface 139 (.pointer (some ⟨b, 0, none⟩))] w fun ev w' => ev = .returned (.bool true) ∧ w'.heap[b]? = some (.cells #[.pointer (some e)] T (0, 0)) ∧ Keeps [b] w w' := by
  refine (as_hitEnv e ⟨b, 0, none⟩ old w hG.ty (cell_of_block hb 0) (free_of_block hb 0)).mono ?_
  rintro ev w' ⟨rfl, rfl⟩
  refine ⟨rfl, ?_, ?_⟩
  · exact block_setCell (block_alloc_old (block_alloc_old (block_alloc_old (block_alloc_old hb)))) 0 _
  · exact (((((Keeps.refl [b] w).alloc _).alloc _).alloc _).alloc _).setCell (Or.inl (by simp)) _

set_option maxRecDepth 100000 in
set_option maxHeartbeats 4000000 in
theorem fault_unb {a : Nat → Addr} {B : Nat} (w : World) (hG : Gl a B w) (c p : Nat) (s : ByteArray) (h : w.heap[c]? = some (.cells #[.int .i64 p, .string s] 149 (0, 0))) :
    Calls Tryz.prog 27 #[.iface 136 (.pointer (some ⟨c, 0, none⟩))] w fun e w' => e = .returned (faultV 4 p s 0 0) ∧ Keeps [] w w' := by
  have HG := Lib.hid hG
  have HH := Lib.hid h
  have hlt : c < w.heap.size := lt_of_some h
  clear hG h
  go_enter Tryz.func27, Tryz.ntmps27
  go_wp2_with fail
  have hv := Fv.start w
  have e2 : w.heap.size + 1 + 1 = w.heap.size + 2 := rfl
  have e3 : w.heap.size + 1 + 1 + 1 = w.heap.size + 3 := rfl
  simp only [e2, e3]
  revert hv
  generalize ((((w.alloc (.cells #[.int .i64 0, .int .i64 0, .string ⟨#[]⟩, .int .i64 0, .int .i64 0] 26)).alloc (.cells #[.pointer none] 135)).alloc (.cells #[.pointer none] 136)).alloc (.cells #[.pointer none] 137)) = W
  intro hv
  have HV := Lib.hid hv
  clear hv e2 e3
  refine (missUnbEnv (HG.out.keeps HV.out.kp (by simp)) _ _).mono ?_
  rintro e w1 ⟨rfl, hk⟩
  have HV1 := Lib.hid (HV.out.step hk)
  clear hk HV
  go_wp2_with fail
  refine (missUnbSyn (HG.out.keeps HV1.out.kp (by simp)) _ _).mono ?_
  rintro e w1 ⟨rfl, hk⟩
  have HV2 := Lib.hid (HV1.out.step hk)
  clear hk HV1
  go_wp2_with fail
  refine (hitUnb (HG.out.keeps HV2.out.kp (by simp)) _ _ _ _ HV2.out.b2).mono ?_
  rintro e w2 ⟨rfl, hb, hk⟩
  have c1 : w2.cell? ⟨w.heap.size + 2, 0, none⟩ = some (.pointer (some ⟨c, 0, none⟩)) := cell_of_block hb 0
  have HK := Lib.hid (show Keeps [] w w2 from HV2.out.kp.trans hk (by simp))
  have cc : w2.cell? ⟨c, 0, none⟩ = some (.int .i64 p) := cell_of_block (HK.out.some HH.out (by simp)) 0
  have cd : w2.cell? ⟨c, 1, none⟩ = some (.string s) := cell_of_block (HK.out.some HH.out (by simp)) 1
  have hb0 := hk.some HV2.out.b0 (by simp)
  have r0 := cell_of_block hb0 0
  have r1 := cell_of_block hb0 1
  have r2 := cell_of_block hb0 2
  have r3 := cell_of_block hb0 3
  have r4 := cell_of_block hb0 4
  have f0 := free_of_block hb0 0
  have f1 := free_of_block hb0 1
  have f2 := free_of_block hb0 2
  have f3 := free_of_block hb0 3
  have f4 := free_of_block hb0 4
  clear hb hk hb0
  go_wp2_with fail
  go_region
  all_goals
    go_wp2_with fail
    refine bodyPost_ret (v := faultV 4 p s 0 0) ?_ rfl ?_
    · simp [results, Tryz.results27, go_sem, r0, r1, r2, r3, r4]
    · exact ⟨rfl, by repeat (first | exact HK.out | refine Keeps.setCell ?_ (Or.inr (Nat.le_refl _)) _ | refine Keeps.alloc ?_ _ | refine Keeps.drew ?_)⟩

theorem errAt_keeps0 {a : Nat → Addr} {w w' : World} {f : Nat × Nat} {v : Value} (h : ErrAt a w f v) (hk : Keeps [] w w') : ErrAt a w' f v := by
  rcases h with h | ⟨h2, c, hv, hc⟩
  · exact .inl h
  · exact .inr ⟨h2, c, hv, hk.some hc (by simp)⟩
/-- What an error about an environment holds: nothing, or what was wrong with a type. -/
def EnvErrAt (a : Nat → Addr) (w : World) (c : Nat) (n : ByteArray) (r : Option (Nat × Nat)) : Prop := ∃ u, w.heap[c]? = some (.cells #[.string n, u] 141 (0, 0)) ∧ match r with
  | none => u = .nilIface
  | some f => ErrAt a w f u

def envFault (n : ByteArray) : Option (Nat × Nat) → Value
  | none => faultV 5 0 n 0 0
  | some f => faultV 5 0 n f.1 (placeOf f)
theorem unwrap_env {w : World} {c : Nat} {n : ByteArray} {u : Value} (hu : u = .nilIface ∨ ∃ t p, u = .iface t p) (h : w.heap[c]? = some (.cells #[.string n, u] 141 (0, 0))) :
    Calls Tryz.prog 59 #[.iface 137 (.pointer (some ⟨c, 0, none⟩))] w fun e w' => e = .returned u ∧ w = w' := by
  have c1 : w.cell? ⟨c, 1, none⟩ = some u := cell_of_block h 1
  have hq := hasUnwrapEnv (.pointer (some ⟨c, 0, none⟩)) 61 w
  have hm := mUnwrap (.pointer (some ⟨c, 0, none⟩)) w
  clear h
  rcases hu with rfl | ⟨t, p, rfl⟩
  all_goals
    go_enter Tryz.func59, Tryz.ntmps59
    go_wp2
    go_ret
    exact ⟨rfl, rfl⟩

set_option maxRecDepth 100000 in
set_option maxHeartbeats 4000000 in
theorem fault_env {a : Nat → Addr} {B : Nat} (w : World) (hG : Gl a B w) (c : Nat) (n : ByteArray) (r : Option (Nat × Nat)) (h : EnvErrAt a w c n r) :
    Calls Tryz.prog 27 #[.iface 137 (.pointer (some ⟨c, 0, none⟩))] w fun e w' => e = .returned (envFault n r) ∧ Keeps [] w w' := by
  obtain ⟨u, hc, hu⟩ := h
  have HG := Lib.hid hG
  have HH := Lib.hid hc
  have HU := Lib.hid hu
  have hlt : c < w.heap.size := lt_of_some hc
  clear hG hc hu
  go_enter Tryz.func27, Tryz.ntmps27
  go_wp2_with fail
  have hv := Fv.start w
  have e2 : w.heap.size + 1 + 1 = w.heap.size + 2 := rfl
  have e3 : w.heap.size + 1 + 1 + 1 = w.heap.size + 3 := rfl
  simp only [e2, e3]
  revert hv
  generalize ((((w.alloc (.cells #[.int .i64 0, .int .i64 0, .string ⟨#[]⟩, .int .i64 0, .int .i64 0] 26)).alloc (.cells #[.pointer none] 135)).alloc (.cells #[.pointer none] 136)).alloc (.cells #[.pointer none] 137)) = W
  intro hv
  have HV := Lib.hid hv
  clear hv e2 e3
  refine (hitEnv (HG.out.keeps HV.out.kp (by simp)) _ _ _ _ HV.out.b3).mono ?_
  rintro e w2 ⟨rfl, hb, hk⟩
  have HK := Lib.hid (show Keeps [] w w2 from HV.out.kp.trans hk (by simp))
  have hcc := HK.out.some HH.out (by simp)
  have c1 : w2.cell? ⟨w.heap.size + 3, 0, none⟩ = some (.pointer (some ⟨c, 0, none⟩)) := cell_of_block hb 0
  have cc : w2.cell? ⟨c, 0, none⟩ = some (.string n) := cell_of_block hcc 0
  have hb0 := hk.some HV.out.b0 (by simp)
  have r0 := cell_of_block hb0 0
  have r1 := cell_of_block hb0 1
  have r2 := cell_of_block hb0 2
  have r3 := cell_of_block hb0 3
  have r4 := cell_of_block hb0 4
  have f0 := free_of_block hb0 0
  have f1 := free_of_block hb0 1
  have f2 := free_of_block hb0 2
  have f3 := free_of_block hb0 3
  have f4 := free_of_block hb0 4
  have hlt3 : w.heap.size + 3 < w2.heap.size := lt_of_some hb
  have hlt0 : w.heap.size < w2.heap.size := lt_of_some hb0
  have hltc : c < w2.heap.size := lt_of_some hcc
  have HB0 := Lib.hid hb0
  have HB3 := Lib.hid hb
  have HCC := Lib.hid hcc
  clear hb hk hb0 hcc
  go_wp2_with fail
  have HCA := Lib.hid (block_alloc_old (o' := .cells #[.int .i64 5, .int .i64 0, .string n, .int .i64 0, .int .i64 0] 26) HCC.out)
  cases r with
  | none =>
    obtain rfl := HU.out
    refine (unwrap_env (.inl rfl) HCA.out).mono ?_
    rintro e w3 ⟨rfl, rfl⟩
    go_wp2_with fail
    refine bodyPost_ret (v := faultV 5 0 n 0 0) ?_ rfl ?_
    · simp [results, Tryz.results27, go_sem, r0, r1, r2, r3, r4, hlt0]
    · exact ⟨rfl, by repeat (first | exact HK.out | refine Keeps.setCell ?_ (Or.inr (Nat.le_refl _)) _ | refine Keeps.alloc ?_ _ | refine Keeps.drew ?_)⟩
  | some f =>
    obtain ⟨et, ep, rfl⟩ := errAt_shape HU.out
    refine (unwrap_env (.inr ⟨_, _, rfl⟩) HCA.out).mono ?_
    rintro e w3 ⟨rfl, rfl⟩
    have HKA := Lib.hid (show Keeps [] w _ from HK.out.alloc (.cells #[.int .i64 5, .int .i64 0, .string n, .int .i64 0, .int .i64 0] 26))
    have HBF := Lib.hid (block_alloc w2 (.cells #[.int .i64 5, .int .i64 0, .string n, .int .i64 0, .int .i64 0] 26))
    go_wp2_with fail
    refine (fault_any (HG.out.keeps HKA.out (by simp)) (errAt_keeps0 HU.out HKA.out)).mono ?_
    rintro e w4 ⟨rfl, hk4⟩
    have hf4 := hk4.some HBF.out (by simp)
    have hb4 := hk4.some (block_alloc_old HB0.out) (by simp)
    have hc4 := hk4.some HCA.out (by simp)
    have he4 := hk4.some (block_alloc_old HB3.out) (by simp)
    have g0 := cell_of_block hf4 0
    have g1 := cell_of_block hf4 1
    have g2 := cell_of_block hf4 2
    have g3 := cell_of_block hf4 3
    have g4 := cell_of_block hf4 4
    have k3 := free_of_block hf4 3
    have k4 := free_of_block hf4 4
    have x1 := cell_of_block hc4 1
    have z1 := cell_of_block he4 0
    have r0 := cell_of_block hb4 0
    have r1 := cell_of_block hb4 1
    have r2 := cell_of_block hb4 2
    have r3 := cell_of_block hb4 3
    have r4 := cell_of_block hb4 4
    have f0 := free_of_block hb4 0
    have f1 := free_of_block hb4 1
    have f2 := free_of_block hb4 2
    have f3 := free_of_block hb4 3
    have f4 := free_of_block hb4 4
    have hl4 : w2.heap.size < w4.heap.size := lt_of_some hf4
    have hl40 : w.heap.size < w4.heap.size := lt_of_some hb4
    have hn40 : ¬ (w2.heap.size = w.heap.size) := by omega
    have hn41 : ¬ (w.heap.size = w2.heap.size) := by omega
    simp at g0 g1 g2 g3 g4 x1 z1 r0 r1 r2 r3 r4
    have HK4 := Lib.hid hk4
    have HC4 := Lib.hid hc4
    have HX1 := Lib.hid (fun (W' : World) (hk : Keeps [w2.heap.size] w4 W') => (cell_of_block (hk.some hc4 (by simp; omega)) 1 : W'.cell? ⟨c, 1, none⟩ = some (.iface et (.pointer ep))))
    have HF4 := Lib.hid hf4
    have HB4 := Lib.hid hb4
    clear hf4 hb4 hc4 he4 hk4 c1 cc
    go_wp2_with fail
    go_region
    all_goals
      go_wp2_with fail
      rcases HU.out with ⟨k, hk, e⟩ | ⟨h2, cs, e, hcs⟩
      · obtain ⟨rfl, rfl⟩ : et = 354 ∧ ep = some (a k) := by
          have e' : Value.iface et (.pointer ep) = .iface 354 (.pointer (some (a k))) := e
          simpa using e'
        refine (is_env_same c 0 _ _ (HX1.out _ ?_)).mono ?_
        · repeat (first | exact Keeps.refl _ _ | refine Keeps.drew ?_ | refine Keeps.alloc ?_ _ | refine Keeps.setCell ?_ (Or.inl (by simp)) _)
        rintro e w5 ⟨rfl, hw5⟩
        have hk5 : Keeps [w2.heap.size] w4 w5 := by
          rw [← hw5]
          repeat (first | exact Keeps.refl _ _ | refine Keeps.drew ?_ | refine Keeps.alloc ?_ _ | refine Keeps.setCell ?_ (Or.inl (by simp)) _)
        have hf5 : w5.heap[w2.heap.size]? = some (.cells #[.int .i64 5, .int .i64 0, .string n, .int .i64 f.1, .int .i64 (placeOf f)] 26 (0, 0)) := by
          rw [← hw5]
          first
            | exact block_alloc_old (block_setCell (block_setCell HF4.out 3 _) 4 _)
            | exact block_setCell (block_setCell (block_alloc_old HF4.out) 3 _) 4 _
            | exact block_alloc_old (block_setCell (block_setCell HF4.out 4 _) 3 _)
            | exact block_setCell (block_setCell (block_alloc_old HF4.out) 4 _) 3 _
        have hb5 := hk5.some HB4.out (by simp; omega)
        clear hw5 g0 g1 g2 g3 g4 k3 k4 r0 r1 r2 r3 r4 f0 f1 f2 f3 f4 x1 z1
        have g0 := cell_of_block hf5 0
        have g1 := cell_of_block hf5 1
        have g2 := cell_of_block hf5 2
        have g3 := cell_of_block hf5 3
        have g4 := cell_of_block hf5 4
        have r0 := cell_of_block hb5 0
        have r1 := cell_of_block hb5 1
        have r2 := cell_of_block hb5 2
        have r3 := cell_of_block hb5 3
        have r4 := cell_of_block hb5 4
        have f0 := free_of_block hb5 0
        have f1 := free_of_block hb5 1
        have f2 := free_of_block hb5 2
        have f3 := free_of_block hb5 3
        have f4 := free_of_block hb5 4
        have hl5 : w.heap.size < w5.heap.size := lt_of_some hb5
        simp at g0 g1 g2 g3 g4 r0 r1 r2 r3 r4
        have HK5 := Lib.hid (HKA.out.trans0 HK4.out |>.trans hk5 (by simp; omega))
        clear hf5 hb5 hk5 hl4 hl40 hn40 hn41
        go_wp2_with fail
        refine bodyPost_ret (v := faultV 5 0 n f.1 (placeOf f)) ?_ rfl ?_
        · simp [results, Tryz.results27, go_sem, r0, r1, r2, r3, r4]
          try omega
        · exact ⟨rfl, by repeat (first | exact HK5.out | refine Keeps.setCell ?_ (Or.inr (Nat.le_refl _)) _)⟩
      · obtain ⟨rfl, rfl⟩ : et = 135 ∧ ep = some ⟨cs, 0, none⟩ := by simpa using e
        refine (is_env_syn c 0 _ _ (HX1.out _ ?_)).mono ?_
        · repeat (first | exact Keeps.refl _ _ | refine Keeps.drew ?_ | refine Keeps.alloc ?_ _ | refine Keeps.setCell ?_ (Or.inl (by simp)) _)
        rintro e w5 ⟨rfl, hw5⟩
        have hk5 : Keeps [w2.heap.size] w4 w5 := by
          rw [← hw5]
          repeat (first | exact Keeps.refl _ _ | refine Keeps.drew ?_ | refine Keeps.alloc ?_ _ | refine Keeps.setCell ?_ (Or.inl (by simp)) _)
        have hf5 : w5.heap[w2.heap.size]? = some (.cells #[.int .i64 5, .int .i64 0, .string n, .int .i64 f.1, .int .i64 (placeOf f)] 26 (0, 0)) := by
          rw [← hw5]
          first
            | exact block_alloc_old (block_setCell (block_setCell HF4.out 3 _) 4 _)
            | exact block_setCell (block_setCell (block_alloc_old HF4.out) 3 _) 4 _
            | exact block_alloc_old (block_setCell (block_setCell HF4.out 4 _) 3 _)
            | exact block_setCell (block_setCell (block_alloc_old HF4.out) 4 _) 3 _
        have hb5 := hk5.some HB4.out (by simp; omega)
        clear hw5 g0 g1 g2 g3 g4 k3 k4 r0 r1 r2 r3 r4 f0 f1 f2 f3 f4 x1 z1
        have g0 := cell_of_block hf5 0
        have g1 := cell_of_block hf5 1
        have g2 := cell_of_block hf5 2
        have g3 := cell_of_block hf5 3
        have g4 := cell_of_block hf5 4
        have r0 := cell_of_block hb5 0
        have r1 := cell_of_block hb5 1
        have r2 := cell_of_block hb5 2
        have r3 := cell_of_block hb5 3
        have r4 := cell_of_block hb5 4
        have f0 := free_of_block hb5 0
        have f1 := free_of_block hb5 1
        have f2 := free_of_block hb5 2
        have f3 := free_of_block hb5 3
        have f4 := free_of_block hb5 4
        have hl5 : w.heap.size < w5.heap.size := lt_of_some hb5
        simp at g0 g1 g2 g3 g4 r0 r1 r2 r3 r4
        have HK5 := Lib.hid (HKA.out.trans0 HK4.out |>.trans hk5 (by simp; omega))
        clear hf5 hb5 hk5 hl4 hl40 hn40 hn41
        go_wp2_with fail
        refine bodyPost_ret (v := faultV 5 0 n f.1 (placeOf f)) ?_ rfl ?_
        · simp [results, Tryz.results27, go_sem, r0, r1, r2, r3, r4]
          try omega
        · exact ⟨rfl, by repeat (first | exact HK5.out | refine Keeps.setCell ?_ (Or.inr (Nat.le_refl _)) _)⟩
end Go.Proofs.YtpbplpnifjbkoabGreatDoor

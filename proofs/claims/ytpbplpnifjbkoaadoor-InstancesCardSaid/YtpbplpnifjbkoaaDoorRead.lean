/-
  text.Caught; the deferred closure of ast.Read; ast.Read itself: by contracts.
-/
import Derived.Test.YtpbplpnifjbkoaaDoorBelow2
import Derived.Test.YtpbplpnifjbkoaaDoorParser
import Derived.Test.YtpbplpnifjbkoaaDoorNames
import Derived.Recover
import Derived.Defers
namespace Go.Proofs.YtpbplpnifjbkoaaDoor
open Go.RowKit

theorem wpS_region_draw {P : Program} {Q : Exit → Act → List Frame → World → Prop} {a : Act} {cs : List Frame} {w : World} {id : Nat} {ops : Array Oper}
    (h : ∀ t, wpOpsS P ops Q (Region.schedule (P.follows .mixedOrders) ops t) a cs w.drew) : (Code.region id ops true).wpS P Q a cs w :=
  fun b k hb hr => let ⟨e, a', cs', w', q, r⟩ := wp_opsS _ a cs _ (h _) b k hb hr; ⟨e, a', cs', w', q, .of_steps (.one step_region_draw) r⟩

theorem caught_nil (v : Value) (w : World) : Calls Tryd.prog 67 #[.nilIface, v] w fun e w' => e = .returned v ∧ w = w' := by
  go_enter Tryd.func67, Tryd.ntmps67
  go_wp2
  go_ret
  exact ⟨rfl, rfl⟩

theorem taStop (v : Value) (xT : TypeId) (w : World) : (Instr.typeAssert (.iface 214 v) xT 214 true).run Tryd.prog w = .ok (.tuple #[v, .bool true]) w := by kernel_rfl

theorem caught_stop (p : Nat) (v : Value) (w : World) : Calls Tryd.prog 67 #[stopV p, v] w fun e w' =>
    ∃ b : Nat, e = .returned (.iface 58 (.pointer (some ⟨b, 0, none⟩))) ∧ w'.heap[b]? = some (.cells #[.int .i64 p] 60 (0, 0)) ∧ Keeps [] w w' ∧ w.heap.size ≤ b := by
  have q := taStop (.agg #[.int .i64 p]) 20 w
  go_enter Tryd.func67, Tryd.ntmps67
  go_wp2
  go_ret
  refine ⟨w.heap.size + 1, rfl, ?_, ((Keeps.refl [] w).alloc _).alloc _, Nat.le_succ _⟩
  have := block_alloc (w.alloc (.cells #[.int .i64 p] 214)) (.cells #[.int .i64 p] 60)
  simpa using this

theorem lin_go {md : Region.Mode} {ops : Array Oper} {n t : Nat} {listed : Array Bool} {acc : List Nat} : Region.linearise.go md ops (n + 1) t listed acc =
    match (Region.ready md ops listed)[t % (Region.ready md ops listed).length]? with
    | some i => Region.linearise.go md ops n (t / (Region.ready md ops listed).length) (listed.setIfInBounds i true) (i :: acc)
    | none => acc.reverse := rfl

theorem sched_two {ops : Array Oper} (hsz : ops.size = 4) (h0 : Region.ready .any ops #[false, false, false, false] = [0, 1]) (h1 : Region.ready .any ops #[true, false, false, false] = [1])
    (h2 : Region.ready .any ops #[false, true, false, false] = [0]) (h3 : Region.ready .any ops #[true, true, false, false] = [2]) (h4 : Region.ready .any ops #[true, true, true, false] = [3]) (t : Nat) :
    Region.schedule true ops t = [0, 1, 2, 3] ∨ Region.schedule true ops t = [1, 0, 2, 3] := by
  simp only [Region.schedule, Bool.true_or, if_true, Region.linearise, hsz]
  rw [show Array.replicate 4 false = #[false, false, false, false] from rfl]
  rw [lin_go, h0]
  rcases Nat.mod_two_eq_zero_or_one t with h | h
  · left
    simp only [List.length_cons, List.length_nil, h, List.getElem?_cons_zero]
    rw [show (#[false, false, false, false] : Array Bool).setIfInBounds 0 true = #[true, false, false, false] from rfl, lin_go, h1]
    simp only [List.length_cons, List.length_nil, Nat.mod_one, List.getElem?_cons_zero, Nat.zero_add]
    rw [show (#[true, false, false, false] : Array Bool).setIfInBounds 1 true = #[true, true, false, false] from rfl, lin_go, h3]
    simp only [List.length_cons, List.length_nil, Nat.mod_one, List.getElem?_cons_zero, Nat.zero_add]
    rw [show (#[true, true, false, false] : Array Bool).setIfInBounds 2 true = #[true, true, true, false] from rfl, lin_go, h4]
    simp [Nat.mod_one, Region.linearise.go]
  · right
    simp only [List.length_cons, List.length_nil, h, List.getElem?_cons_succ, List.getElem?_cons_zero]
    rw [show (#[false, false, false, false] : Array Bool).setIfInBounds 1 true = #[false, true, false, false] from rfl, lin_go, h2]
    simp only [List.length_cons, List.length_nil, Nat.mod_one, List.getElem?_cons_zero, Nat.zero_add]
    rw [show (#[false, true, false, false] : Array Bool).setIfInBounds 0 true = #[true, true, false, false] from rfl, lin_go, h3]
    simp only [List.length_cons, List.length_nil, Nat.mod_one, List.getElem?_cons_zero, Nat.zero_add]
    rw [show (#[true, true, false, false] : Array Bool).setIfInBounds 2 true = #[true, true, true, false] from rfl, lin_go, h4]
    simp [Nat.mod_one, Region.linearise.go]

set_option maxHeartbeats 1000000 in
theorem read1_idle (b : Nat) (v : Value) (w : World) (h : w.heap[b]? = some (.cells #[v] 52 (0, 0))) (hv : v = .nilIface ∨ ∃ t q, v = .iface t (.pointer q)) :
    CallsD Tryd.prog 66 #[.pointer (some ⟨b, 0, none⟩)] .returning w fun e u' w' => e = .returned (.tuple #[]) ∧ u' = .returning ∧ w' = w.drew.setCell ⟨b, 0, none⟩ v := by
  have hc : w.drew.cell? ⟨b, 0, none⟩ = some v := cell_of_block h 0
  have hf : w.drew.frozen? ⟨b, 0, none⟩ = false := free_of_block h 0
  rcases hv with rfl | ⟨ty, q, rfl⟩
  all_goals
    refine callsD_of_wpS Tryd.func66 rfl fun c₀ cs hu => ?_
    apply wpS_region_draw
    intro t
    rw [show Tryd.prog.follows .mixedOrders = true by kernel_rfl]
    rcases sched_two (by kernel_rfl) (by kernel_rfl) (by kernel_rfl) (by kernel_rfl) (by kernel_rfl) (by kernel_rfl) t with h | h
    · rw [h]
      simp [wpOpsS, go_sem, recoverD, hu, Tryd.ntmps66, hc]
      refine (caught_nil _ _).mono ?_
      rintro e w1 ⟨rfl, rfl⟩
      simp [go_sem, hc, hf, bodyPostS, results, Tryd.results66]
      cases c₀; simp_all
    · rw [h]
      simp [wpOpsS, go_sem, recoverD, hu, Tryd.ntmps66, hc]
      refine (caught_nil _ _).mono ?_
      rintro e w1 ⟨rfl, rfl⟩
      simp [go_sem, hc, hf, bodyPostS, results, Tryd.results66]
      cases c₀; simp_all

set_option maxHeartbeats 1000000 in
theorem read1_panicking (b : Nat) (v : Value) (p : Nat) (older : List PanicEntry) (w : World) (hb : w.heap[b]? = some (.cells #[v] 52 (0, 0))) :
    CallsD Tryd.prog 66 #[.pointer (some ⟨b, 0, none⟩)] (.panicking ({ v := stopV p, recovered := false } :: older)) w fun e u' w' => e = .returned (.tuple #[]) ∧ u' = .panicking ({ v := stopV p, recovered := true } :: older) ∧
      ∃ c, w'.heap[b]? = some (.cells #[.iface 58 (.pointer (some ⟨c, 0, none⟩))] 52 (0, 0)) ∧ w'.heap[c]? = some (.cells #[.int .i64 p] 60 (0, 0)) ∧ Keeps [b] w w' ∧ w.heap.size ≤ c := by
  have hc : w.drew.cell? ⟨b, 0, none⟩ = some v := cell_of_block hb 0
  have hf : w.drew.frozen? ⟨b, 0, none⟩ = false := free_of_block hb 0
  have hlt : b < w.drew.heap.size := lt_of_some hb
  refine callsD_of_wpS Tryd.func66 rfl fun c₀ cs hu => ?_
  apply wpS_region_draw
  intro t
  rw [show Tryd.prog.follows .mixedOrders = true by kernel_rfl]
  rcases sched_two (by kernel_rfl) (by kernel_rfl) (by kernel_rfl) (by kernel_rfl) (by kernel_rfl) (by kernel_rfl) t with h | h
  · rw [h]
    simp [wpOpsS, go_sem, recoverD, hu, Tryd.ntmps66, hc]
    refine (caught_stop p _ _).mono ?_
    rintro e w1 ⟨c, rfl, hc1, hk, hge⟩
    have hc2 : w1.cell? ⟨b, 0, none⟩ = some v := (hk.cell (p := ⟨b, 0, none⟩) hlt (by simp)).trans hc
    have hf2 : w1.frozen? ⟨b, 0, none⟩ = false := (hk.frozen (p := ⟨b, 0, none⟩) hlt (by simp)).trans hf
    simp [go_sem, hc2, hf2, bodyPostS, results, Tryd.results66]
    refine ⟨c, ?_, ?_, ?_, ?_⟩
    · have := block_setCell (w := w1) ((hk.block b hlt (by simp)).trans hb) 0 (.iface 58 (.pointer (some ⟨c, 0, none⟩)))
      simpa using this
    · exact block_setCell_other hc1 _ _ (by have : b < w.heap.size := hlt; have : w.heap.size ≤ c := hge; simp; omega)
    · exact (((Keeps.refl [] w).drew.trans0 hk).mono (by simp)).setCell (Or.inl (by simp)) _
    · exact hge
  · rw [h]
    simp [wpOpsS, go_sem, recoverD, hu, Tryd.ntmps66, hc]
    refine (caught_stop p _ _).mono ?_
    rintro e w1 ⟨c, rfl, hc1, hk, hge⟩
    have hc2 : w1.cell? ⟨b, 0, none⟩ = some v := (hk.cell (p := ⟨b, 0, none⟩) hlt (by simp)).trans hc
    have hf2 : w1.frozen? ⟨b, 0, none⟩ = false := (hk.frozen (p := ⟨b, 0, none⟩) hlt (by simp)).trans hf
    simp [go_sem, hc2, hf2, bodyPostS, results, Tryd.results66]
    refine ⟨c, ?_, ?_, ?_, ?_⟩
    · have := block_setCell (w := w1) ((hk.block b hlt (by simp)).trans hb) 0 (.iface 58 (.pointer (some ⟨c, 0, none⟩)))
      simpa using this
    · exact block_setCell_other hc1 _ _ (by have : b < w.heap.size := hlt; have : w.heap.size ≤ c := hge; simp; omega)
    · exact (((Keeps.refl [] w).drew.trans0 hk).mono (by simp)).setCell (Or.inl (by simp)) _
    · exact hge
end Go.Proofs.YtpbplpnifjbkoaaDoor

/-
  From the row's condition on the listed variables to the errors as they lie ('Gl'). Printed by gen_laid.py.
-/
import Derived.Test.YtpbplpnifjbkoabGreatDoorRows
import Derived.Test.YtpbplpnifjbkoabGreatDoorNames
import Derived.ProofKit
import Derived.LaidMore
import Derived.LaidLaws
import Derived.LaidHandle
import Derived.OpenShut
import Derived.Stop.Joined
import Derived.Stop.LaidErr
import Derived.Stop.LaidTwo
namespace Go.Proofs.YtpbplpnifjbkoabGreatDoor
open Go.ChangeShapes Go.WideShapes Go.RowKit

theorem own : ownKnob Tryz.prog.godebug = none := by kernel_rfl
theorem star : "*" ++ "errors.errorString" = "*errors.errorString" := by decide
theorem cellsES : Tryz.prog.cellsOf 372 = 1 := by kernel_rfl
theorem cellsS : Tryz.prog.cellsOf 9 = 1 := by kernel_rfl
theorem rowES (u : TypeId) (h : Tryz.prog.typeName? 3 u = some "*errors.errorString") : u = 354 :=
  typeName_ptr_named (nm := "errors.errorString") (by rw [star]; kernel_rfl) (by kernel_rfl) (by decide) u (by rw [star]; exact h)
theorem gErrLong : Tryz.prog.globalNamed "schemes/api.ErrLong" = some 1 := by kernel_rfl
theorem tErrLong : (Tryz.prog.globals[1]?).map (·.type) = some 61 := by kernel_rfl
theorem gErrDeep : Tryz.prog.globalNamed "schemes/api.ErrDeep" = some 2 := by kernel_rfl
theorem tErrDeep : (Tryz.prog.globals[2]?).map (·.type) = some 61 := by kernel_rfl
theorem gErrArg : Tryz.prog.globalNamed "schemes/api.ErrArg" = some 0 := by kernel_rfl
theorem tErrArg : (Tryz.prog.globals[0]?).map (·.type) = some 61 := by kernel_rfl
theorem gErrType : Tryz.prog.globalNamed "schemes/api.ErrType" = some 3 := by kernel_rfl
theorem tErrType : (Tryz.prog.globals[3]?).map (·.type) = some 61 := by kernel_rfl
theorem gErrBig : Tryz.prog.globalNamed "schemes/api.ErrBig" = some 4 := by kernel_rfl
theorem tErrBig : (Tryz.prog.globals[4]?).map (·.type) = some 61 := by kernel_rfl
theorem gErrFuel : Tryz.prog.globalNamed "schemes/api.ErrFuel" = some 5 := by kernel_rfl
theorem tErrFuel : (Tryz.prog.globals[5]?).map (·.type) = some 61 := by kernel_rfl
theorem gErrStopped : Tryz.prog.globalNamed "schemes/api.ErrStopped" = some 6 := by kernel_rfl
theorem tErrStopped : (Tryz.prog.globals[6]?).map (·.type) = some 61 := by kernel_rfl
theorem gErrNot : Tryz.prog.globalNamed "schemes/api.ErrNot" = some 7 := by kernel_rfl
theorem tErrNot : (Tryz.prog.globals[7]?).map (·.type) = some 61 := by kernel_rfl
theorem gErrorType : Tryz.prog.globalNamed "errors.errorType" = some 8 := by kernel_rfl
theorem rtRow : (Tryz.prog.cutTypes.find? (·.1 == "internal/reflectlite.rtype")).map (·.2) = some 286 := by kernel_rfl
theorem typesSize : Tryz.prog.types.size = 384 := by kernel_rfl
theorem oneRow : ((List.range 384).filter fun t => Tryz.prog.rowNamed t [101, 114, 114, 111, 114]) = [61] := by kernel_rfl
theorem handleErr : typeHandle Tryz.prog 61 = .pointer (some ⟨13, 61, none⟩) := by kernel_rfl

def errs8 : List (String × DataW Unit) := [("schemes/api.ErrLong", Rows.laid_schemes_api_ErrLong), ("schemes/api.ErrDeep", Rows.laid_schemes_api_ErrDeep), ("schemes/api.ErrArg", Rows.laid_schemes_api_ErrArg), ("schemes/api.ErrType", Rows.laid_schemes_api_ErrType), ("schemes/api.ErrBig", Rows.laid_schemes_api_ErrBig), ("schemes/api.ErrFuel", Rows.laid_schemes_api_ErrFuel), ("schemes/api.ErrStopped", Rows.laid_schemes_api_ErrStopped), ("schemes/api.ErrNot", Rows.laid_schemes_api_ErrNot)]
def addrs (l : List Addr) (k : Nat) : Addr := l.getD k ⟨0, 0, none⟩

theorem handle_met {W : World} (h : handlesMet Tryz.prog [("errors.errorType", Rows.laid_errors_errorType)] W) : W.cell? ⟨8, 0, none⟩ = some (.iface 286 (.agg #[.pointer (some ⟨13, 61, none⟩)])) := by
  obtain ⟨name, u, ty, e1, e2, e3, e4, e5⟩ := h _ (List.mem_singleton.2 rfl)
  have en : name = [101, 114, 114, 111, 114] := (Option.some.inj e1).symm
  subst en
  obtain rfl := Option.some.inj (rtRow.symm.trans e2)
  have hm : ty ∈ (List.range 384).filter fun t => Tryz.prog.rowNamed t [101, 114, 114, 111, 114] := List.mem_filter.2 ⟨List.mem_range.2 (by rw [← typesSize]; exact e3), e4⟩
  rw [oneRow] at hm
  obtain rfl := List.mem_singleton.1 hm
  rw [handleErr] at e5
  simpa using World.var?_cell gErrorType e5 0

set_option maxRecDepth 100000 in
set_option maxHeartbeats 4000000 in
theorem gl_of_laid {W : World} (h : laidMet Tryz.prog errs8 W) (hh : handlesMet Tryz.prog [("errors.errorType", Rows.laid_errors_errorType)] W) : ∃ a, Gl a W.heap.size W := by
  obtain ⟨ps, ⟨g0, t0, cs0, f0, p0, q0, hg0, ht0, hv0, hd0, ⟨g1, t1, cs1, f1, p1, q1, hg1, ht1, hv1, hd1, ⟨g2, t2, cs2, f2, p2, q2, hg2, ht2, hv2, hd2, ⟨g3, t3, cs3, f3, p3, q3, hg3, ht3, hv3, hd3, ⟨g4, t4, cs4, f4, p4, q4, hg4, ht4, hv4, hd4, ⟨g5, t5, cs5, f5, p5, q5, hg5, ht5, hv5, hd5, ⟨g6, t6, cs6, f6, p6, q6, hg6, ht6, hv6, hd6, ⟨g7, t7, cs7, f7, p7, q7, hg7, ht7, hv7, hd7, _, e7⟩, e6⟩, e5⟩, e4⟩, e3⟩, e2⟩, e1⟩, e0⟩, hnd, hrows⟩ := h
  obtain rfl := Option.some.inj (gErrLong.symm.trans hg0)
  obtain rfl := Option.some.inj (tErrLong.symm.trans ht0)
  obtain rfl := Option.some.inj (gErrDeep.symm.trans hg1)
  obtain rfl := Option.some.inj (tErrDeep.symm.trans ht1)
  obtain rfl := Option.some.inj (gErrArg.symm.trans hg2)
  obtain rfl := Option.some.inj (tErrArg.symm.trans ht2)
  obtain rfl := Option.some.inj (gErrType.symm.trans hg3)
  obtain rfl := Option.some.inj (tErrType.symm.trans ht3)
  obtain rfl := Option.some.inj (gErrBig.symm.trans hg4)
  obtain rfl := Option.some.inj (tErrBig.symm.trans ht4)
  obtain rfl := Option.some.inj (gErrFuel.symm.trans hg5)
  obtain rfl := Option.some.inj (tErrFuel.symm.trans ht5)
  obtain rfl := Option.some.inj (gErrStopped.symm.trans hg6)
  obtain rfl := Option.some.inj (tErrStopped.symm.trans ht6)
  obtain rfl := Option.some.inj (gErrNot.symm.trans hg7)
  obtain rfl := Option.some.inj (tErrNot.symm.trans ht7)
  subst e7
  subst e6
  subst e5
  subst e4
  subst e3
  subst e2
  subst e1
  subst e0
  obtain ⟨l0⟩ := cs0
  obtain ⟨l1⟩ := cs1
  obtain ⟨l2⟩ := cs2
  obtain ⟨l3⟩ := cs3
  obtain ⟨l4⟩ := cs4
  obtain ⟨l5⟩ := cs5
  obtain ⟨l6⟩ := cs6
  obtain ⟨l7⟩ := cs7
  have ok0 : ∀ u v, l0 = [.iface u v] → Value.okWide Tryz.prog W .any 0 u v := fun u v e => by
    subst e
    exact (hrows 1 0 (by simp [MemPlace.row])).2 u v (by simpa using World.var?_cell hg0 hv0 0)
  have ok1 : ∀ u v, l1 = [.iface u v] → Value.okWide Tryz.prog W .any 0 u v := fun u v e => by
    subst e
    exact (hrows 2 0 (by simp [MemPlace.row])).2 u v (by simpa using World.var?_cell hg1 hv1 0)
  have ok2 : ∀ u v, l2 = [.iface u v] → Value.okWide Tryz.prog W .any 0 u v := fun u v e => by
    subst e
    exact (hrows 0 0 (by simp [MemPlace.row])).2 u v (by simpa using World.var?_cell hg2 hv2 0)
  have ok3 : ∀ u v, l3 = [.iface u v] → Value.okWide Tryz.prog W .any 0 u v := fun u v e => by
    subst e
    exact (hrows 3 0 (by simp [MemPlace.row])).2 u v (by simpa using World.var?_cell hg3 hv3 0)
  have ok4 : ∀ u v, l4 = [.iface u v] → Value.okWide Tryz.prog W .any 0 u v := fun u v e => by
    subst e
    exact (hrows 4 0 (by simp [MemPlace.row])).2 u v (by simpa using World.var?_cell hg4 hv4 0)
  have ok5 : ∀ u v, l5 = [.iface u v] → Value.okWide Tryz.prog W .any 0 u v := fun u v e => by
    subst e
    exact (hrows 5 0 (by simp [MemPlace.row])).2 u v (by simpa using World.var?_cell hg5 hv5 0)
  have ok6 : ∀ u v, l6 = [.iface u v] → Value.okWide Tryz.prog W .any 0 u v := fun u v e => by
    subst e
    exact (hrows 6 0 (by simp [MemPlace.row])).2 u v (by simpa using World.var?_cell hg6 hv6 0)
  have ok7 : ∀ u v, l7 = [.iface u v] → Value.okWide Tryz.prog W .any 0 u v := fun u v e => by
    subst e
    exact (hrows 7 0 (by simp [MemPlace.row])).2 u v (by simpa using World.var?_cell hg7 hv7 0)
  obtain ⟨a0, s0, rfl, hc0, _, _, rfl⟩ := errorString_of_trod Tryz.underlying61 rowES Tryz.underlying354 Tryz.underlying372 rfl rfl Tryz.underlying9 cellsES cellsS hd0 ok0
  obtain ⟨a1, s1, rfl, hc1, _, _, rfl⟩ := errorString_of_trod Tryz.underlying61 rowES Tryz.underlying354 Tryz.underlying372 rfl rfl Tryz.underlying9 cellsES cellsS hd1 ok1
  obtain ⟨a2, s2, rfl, hc2, _, _, rfl⟩ := errorString_of_trod Tryz.underlying61 rowES Tryz.underlying354 Tryz.underlying372 rfl rfl Tryz.underlying9 cellsES cellsS hd2 ok2
  obtain ⟨a3, s3, rfl, hc3, _, _, rfl⟩ := errorString_of_trod Tryz.underlying61 rowES Tryz.underlying354 Tryz.underlying372 rfl rfl Tryz.underlying9 cellsES cellsS hd3 ok3
  obtain ⟨a4, s4, rfl, hc4, _, _, rfl⟩ := errorString_of_trod Tryz.underlying61 rowES Tryz.underlying354 Tryz.underlying372 rfl rfl Tryz.underlying9 cellsES cellsS hd4 ok4
  obtain ⟨a5, s5, rfl, hc5, _, _, rfl⟩ := errorString_of_trod Tryz.underlying61 rowES Tryz.underlying354 Tryz.underlying372 rfl rfl Tryz.underlying9 cellsES cellsS hd5 ok5
  obtain ⟨a6, s6, rfl, hc6, _, _, rfl⟩ := errorString_of_trod Tryz.underlying61 rowES Tryz.underlying354 Tryz.underlying372 rfl rfl Tryz.underlying9 cellsES cellsS hd6 ok6
  obtain ⟨a7, s7, rfl, hc7, _, _, rfl⟩ := errorString_of_trod Tryz.underlying61 rowES Tryz.underlying354 Tryz.underlying372 rfl rfl Tryz.underlying9 cellsES cellsS hd7 ok7
  obtain ⟨c0, z0, hb0⟩ := (hrows a0.block a0.off (by simp [MemPlace.row])).1
  obtain ⟨c1, z1, hb1⟩ := (hrows a1.block a1.off (by simp [MemPlace.row])).1
  obtain ⟨c2, z2, hb2⟩ := (hrows a2.block a2.off (by simp [MemPlace.row])).1
  obtain ⟨c3, z3, hb3⟩ := (hrows a3.block a3.off (by simp [MemPlace.row])).1
  obtain ⟨c4, z4, hb4⟩ := (hrows a4.block a4.off (by simp [MemPlace.row])).1
  obtain ⟨c5, z5, hb5⟩ := (hrows a5.block a5.off (by simp [MemPlace.row])).1
  obtain ⟨c6, z6, hb6⟩ := (hrows a6.block a6.off (by simp [MemPlace.row])).1
  obtain ⟨c7, z7, hb7⟩ := (hrows a7.block a7.off (by simp [MemPlace.row])).1
  have v0 : W.cell? ⟨1, 0, none⟩ = some (.iface 354 (.pointer (some a0))) := by simpa using World.var?_cell hg0 hv0 0
  have v1 : W.cell? ⟨2, 0, none⟩ = some (.iface 354 (.pointer (some a1))) := by simpa using World.var?_cell hg1 hv1 0
  have v2 : W.cell? ⟨0, 0, none⟩ = some (.iface 354 (.pointer (some a2))) := by simpa using World.var?_cell hg2 hv2 0
  have v3 : W.cell? ⟨3, 0, none⟩ = some (.iface 354 (.pointer (some a3))) := by simpa using World.var?_cell hg3 hv3 0
  have v4 : W.cell? ⟨4, 0, none⟩ = some (.iface 354 (.pointer (some a4))) := by simpa using World.var?_cell hg4 hv4 0
  have v5 : W.cell? ⟨5, 0, none⟩ = some (.iface 354 (.pointer (some a5))) := by simpa using World.var?_cell hg5 hv5 0
  have v6 : W.cell? ⟨6, 0, none⟩ = some (.iface 354 (.pointer (some a6))) := by simpa using World.var?_cell hg6 hv6 0
  have v7 : W.cell? ⟨7, 0, none⟩ = some (.iface 354 (.pointer (some a7))) := by simpa using World.var?_cell hg7 hv7 0
  have nd : [a0, a1, a2, a3, a4, a5, a6, a7].Nodup := by
    simp [MemPlace.row] at hnd
    simp
    refine ⟨⟨?_, ?_, ?_, ?_, ?_, ?_, ?_⟩, ⟨?_, ?_, ?_, ?_, ?_, ?_⟩, ⟨?_, ?_, ?_, ?_, ?_⟩, ⟨?_, ?_, ?_, ?_⟩, ⟨?_, ?_, ?_⟩, ⟨?_, ?_⟩, ?_⟩ <;> (intro h; subst h; simp at hnd)
  refine ⟨addrs [a0, a1, a2, a3, a4, a5, a6, a7], ⟨v0, v1, v2, v3, v4, v5, v6, v7, handle_met hh, ?_, Nat.le_refl _, ?_, ?_, ?_⟩⟩
  · intro g hg
    simp only [gIdx, List.mem_cons, List.not_mem_nil, or_false] at hg
    rcases hg with rfl | rfl | rfl | rfl | rfl | rfl | rfl | rfl | rfl
    all_goals first | exact lt_of_cell v0 | exact lt_of_cell v1 | exact lt_of_cell v2 | exact lt_of_cell v3 | exact lt_of_cell v4 | exact lt_of_cell v5 | exact lt_of_cell v6 | exact lt_of_cell v7 | exact lt_of_cell (handle_met hh)
  · intro k hk
    match k, hk with
    | 0, _ => exact lt_of_some hb0
    | 1, _ => exact lt_of_some hb1
    | 2, _ => exact lt_of_some hb2
    | 3, _ => exact lt_of_some hb3
    | 4, _ => exact lt_of_some hb4
    | 5, _ => exact lt_of_some hb5
    | 6, _ => exact lt_of_some hb6
    | 7, _ => exact lt_of_some hb7
  · intro k hk
    match k, hk with
    | 0, _ => exact ⟨_, _, hb0⟩
    | 1, _ => exact ⟨_, _, hb1⟩
    | 2, _ => exact ⟨_, _, hb2⟩
    | 3, _ => exact ⟨_, _, hb3⟩
    | 4, _ => exact ⟨_, _, hb4⟩
    | 5, _ => exact ⟨_, _, hb5⟩
    | 6, _ => exact ⟨_, _, hb6⟩
    | 7, _ => exact ⟨_, _, hb7⟩
  · intro i j hi hj hij
    have hl : ∀ k, k < 8 → addrs [a0, a1, a2, a3, a4, a5, a6, a7] k = [a0, a1, a2, a3, a4, a5, a6, a7][k]! := fun k hk => by simp [addrs, List.getD, hk]
    intro he
    apply hij
    have h1 : [a0, a1, a2, a3, a4, a5, a6, a7][i]? = some (addrs [a0, a1, a2, a3, a4, a5, a6, a7] i) := by simp [addrs, List.getD, hi]
    have h2 : [a0, a1, a2, a3, a4, a5, a6, a7][j]? = some (addrs [a0, a1, a2, a3, a4, a5, a6, a7] j) := by simp [addrs, List.getD, hj]
    exact (List.getElem?_inj (by simpa using hi) nd).1 (by rw [h1, h2, he])
end Go.Proofs.YtpbplpnifjbkoabGreatDoor

/-
  Laws for a map that a statement makes, and for ranging over it: keys are whole numbers.
-/
import Derived.Maps.RangeWalk
import Derived.Maps.RangeRun
import Derived.Test.YtpbplpnifjbkoabGreatDoorFault
namespace Go.Proofs.YtpbplpnifjbkoabGreatDoor
open Go.RowKit
open Go.ChangeMaps (setBlock)

variable {P : Program} {ops : Array Oper} {rest : List Oper} {o : Oper} {a : Act} {Q : Exit → Act → World → Prop}

theorem setBlock_alloc (w : World) (o o' : Obj) : setBlock (w.alloc o) w.heap.size o' = w.alloc o' := by
  have h : (w.heap.push o).setIfInBounds w.heap.size o' = w.heap.push o' := by
    apply Array.ext_getElem?
    intro i
    rw [Array.getElem?_setIfInBounds, Array.getElem?_push, Array.getElem?_push]
    by_cases hi : w.heap.size = i
    · subst hi; simp
    · simp [hi, Ne.symm hi]
  show ({ (w.alloc o) with heap := (w.heap.push o).setIfInBounds w.heap.size o' } : World) = w.alloc o'
  rw [h]
  rfl

/-- One more entry in the map that was made last. -/
theorem wpList_insert_last (w : World) (hg : o.guard = none) (m x v : Operand) (t : TypeId) (hop : o.op = Op.insert t m x v) (k e : TypeId) (ht : P.underlying t = some (.map k e)) (hk : P.underlying k = some (.int .i64))
    (es : Array MapEntry) (c : Nat) (n : Int) (val : Value) (hm : a.eval m = .map (some w.heap.size)) (hx : a.eval x = .int .i64 n) (hv : a.eval v = val) (hf : Instr.findNow (.int .i64) (.int .i64 n) es.toList 0 = some none)
    (hK : wpList P ops Q rest (a.put o.dst undef) (w.alloc (.map (es.push { key := .int .i64 n, val := val, born := c }) (c + 1)))) : wpList P ops Q (o :: rest) a (w.alloc (.map es c)) := by
  refine wpList_plain hg fun K' hK' => ?_
  have hb : (w.alloc (.map es c)).heap[w.heap.size]? = some (.map es c) := heap_alloc_new w _
  have hrun : (Instr.mapUpdate t (.map (some w.heap.size)) (.int .i64 n) val).run P (w.alloc (.map es c)) = .ok () (w.alloc (.map (es.push { key := .int .i64 n, val := val, born := c }) (c + 1))) := by
    have hc : (Instr.checkKey false 10000 k (.int .i64 n)).run P (w.alloc (.map es c)) = .ok () (w.alloc (.map es c)) := MapKept.run_checkKey (k := .int .i64 n) hk (by simp [MapKept.IsKey]) false 9999
    have hs : (Instr.mapUpdate t (.map (some w.heap.size)) (.int .i64 n) val).run P (w.alloc (.map es c)) = .ok () (setBlock (w.alloc (.map es c)) w.heap.size (.map (es.push { key := .int .i64 n, val := val, born := c }) (c + 1))) := by
      simp [Instr.mapUpdate, run_underlying ht, MapKept.run_getObj_map hb, hc, MapKept.run_findKey hk hf, MapKept.run_setObj_map _ hb, Result.andThen, setBlock]
    rw [hs, setBlock_alloc]
  unfold Oper.wp
  simp [execOp, hop, hm, hx, hv, hrun, Result.andThen]
  exact hK' _ _ hK

/-- 'range' over it. -/
theorem wpList_range_last (w : World) (hg : o.guard = none) (m : Operand) (t : TypeId) (hop : o.op = Op.range t m) (k e : TypeId) (ht : P.underlying t = some (.map k e)) (es : Array MapEntry) (c : Nat)
    (hm : a.eval m = .map (some w.heap.size))
    (hK : wpList P ops Q rest (a.put o.dst (.pointer (some ⟨w.heap.size + 1, 0, none⟩))) ((w.alloc (.map es c)).alloc (.mapIter (some w.heap.size) c #[] c))) : wpList P ops Q (o :: rest) a (w.alloc (.map es c)) := by
  refine wpList_plain hg fun K' hK' => ?_
  have hb : (w.alloc (.map es c)).heap[w.heap.size]? = some (.map es c) := heap_alloc_new w _
  have hrun : (Instr.range t (.map (some w.heap.size))).run P (w.alloc (.map es c)) = .ok (.pointer (some ⟨w.heap.size + 1, 0, none⟩)) ((w.alloc (.map es c)).alloc (.mapIter (some w.heap.size) c #[] c)) := by
    simp [Instr.range, run_underlying ht, MapKept.run_getObj_map hb, Result.andThen]
  unfold Oper.wp
  simp [execOp, hop, hm, hrun, Result.andThen]
  exact hK' _ _ hK

/-- A step of the range: nothing is left, or an entry that has not come yet. -/
theorem wpList_next_map (w : World) (hg : o.guard = none) (it : Operand) (hop : o.op = Op.next it false) (r b since : Nat) (seen : Array Nat) (es : Array MapEntry)
    (hit : a.eval it = .pointer (some ⟨r, 0, none⟩)) (hr : w.heap[r]? = some (.mapIter (some b) since seen since)) (hb : w.heap[b]? = some (.map es since)) (hold : ∀ x ∈ es.toList, x.born < since) (hnd : (es.toList.map (·.born)).Nodup)
    (hne : b ≠ r)
    (hDone : (∀ x ∈ es.toList, x.born ∈ seen) → wpList P ops Q rest (a.put o.dst (.tuple #[.bool false])) w)
    (hMore : ∀ (x : MapEntry) (w' : World), x ∈ es.toList → x.born ∉ seen → w'.heap[r]? = some (.mapIter (some b) since (seen.push x.born) since) → w'.heap[b]? = some (.map es since) → Keeps [r] w w' →
      (Instr.entry (.pointer (some ⟨r, 0, none⟩))).run P w' = .ok (.tuple #[x.key, x.val]) w' → wpList P ops Q rest (a.put o.dst (.tuple #[.bool true, x.key, x.val])) w') :
    wpList P ops Q (o :: rest) a w := by
  refine wpList_plain hg fun K' hK' => ?_
  unfold Oper.wp
  rcases run_next_at (P := P) w o.type r b since since seen es since hr hb hold (Nat.le_refl _) with ⟨h0, hrun⟩ | ⟨x, hx, w1, hal, hrun⟩
  · simp [execOp, hop, hit, hrun, Result.andThen]
    refine hK' _ _ (hDone fun x hx => ?_)
    have := all_seen es seen h0 x hx
    simpa using this
  · obtain ⟨hxe, hxs⟩ := mem_left hx
    have hr1 : w1.heap[r]? = some (.mapIter (some b) since seen since) := by rcases hal with rfl | rfl <;> exact hr
    have hb1 : w1.heap[b]? = some (.map es since) := by rcases hal with rfl | rfl <;> exact hb
    have hset := MapKept.heap_set (o' := .mapIter (some b) since (seen.push x.born) since) hr1
    have hk1 : Keeps [r] w w1 := by rcases hal with rfl | rfl; exact Keeps.refl _ _; exact (Keeps.refl _ _).drew
    simp [execOp, hop, hit, hrun, Result.andThen]
    have hb2 : (setBlock w1 r (.mapIter (some b) since (seen.push x.born) since)).heap[b]? = some (.map es since) := (hset.2 b hne).trans hb1
    refine hK' _ _ (hMore x _ hxe (by simpa using hxs) hset.1 hb2 ?_ (run_entry_at _ r b since seen es since x hset.1 hb2 hxe hnd))
    exact ⟨hk1.os, hk1.tape, hk1.output, Nat.le_trans hk1.size (by simp [setBlock]), fun i hi hn => (hset.2 i (fun e => hn (by simp [e]))).trans (hk1.block i hi hn)⟩

/-- The eight errors by number. -/
def eight (a : Nat → Addr) : Array MapEntry := #[⟨.int .i64 1, sent a 0, 0⟩, ⟨.int .i64 3, sent a 1, 1⟩, ⟨.int .i64 6, sent a 2, 2⟩, ⟨.int .i64 7, sent a 3, 3⟩, ⟨.int .i64 8, sent a 4, 4⟩, ⟨.int .i64 9, sent a 5, 5⟩, ⟨.int .i64 10, sent a 6, 6⟩, ⟨.int .i64 11, sent a 7, 7⟩]
theorem eight_mem {a : Nat → Addr} {x : MapEntry} (h : x ∈ (eight a).toList) : ∃ what k, sentOf what = some k ∧ k < 8 ∧ x = ⟨.int .i64 (what : Nat), sent a k, k⟩ := by
  simp only [eight, List.mem_cons, List.not_mem_nil, or_false] at h
  rcases h with rfl | rfl | rfl | rfl | rfl | rfl | rfl | rfl
  · exact ⟨1, 0, rfl, by decide, rfl⟩
  · exact ⟨3, 1, rfl, by decide, rfl⟩
  · exact ⟨6, 2, rfl, by decide, rfl⟩
  · exact ⟨7, 3, rfl, by decide, rfl⟩
  · exact ⟨8, 4, rfl, by decide, rfl⟩
  · exact ⟨9, 5, rfl, by decide, rfl⟩
  · exact ⟨10, 6, rfl, by decide, rfl⟩
  · exact ⟨11, 7, rfl, by decide, rfl⟩
theorem eight_has {a : Nat → Addr} {k : Nat} (h : k < 8) : ∃ x ∈ (eight a).toList, x.born = k := by
  have hk : k = 0 ∨ k = 1 ∨ k = 2 ∨ k = 3 ∨ k = 4 ∨ k = 5 ∨ k = 6 ∨ k = 7 := by omega
  rcases hk with rfl | rfl | rfl | rfl | rfl | rfl | rfl | rfl <;> simp [eight]
theorem sentOf_lt {what k : Nat} (h : sentOf what = some k) : k < 8 := by
  unfold sentOf at h
  split at h <;> simp at h <;> omega
theorem sentOf_inj {what what' k : Nat} (h : sentOf what = some k) (h' : sentOf what' = some k) : what = what' := by
  unfold sentOf at h h'
  split at h <;> simp at h <;> subst h <;> split at h' <;> simp at h' <;> rfl
end Go.Proofs.YtpbplpnifjbkoabGreatDoor

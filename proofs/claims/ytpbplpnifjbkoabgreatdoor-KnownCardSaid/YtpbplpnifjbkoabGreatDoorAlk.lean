/-
  Maps of numbers to numbers that a call has made: looked at, stored to in two strokes.
-/
import Derived.Test.YtpbplpnifjbkoabGreatDoorEnvx
import Derived.WideKeyEntry
import Derived.Test.YtpbplpnifjbkoabGreatDoorEngx
import Derived.Deep.RegionHeld3
namespace Go.Proofs.YtpbplpnifjbkoabGreatDoor
open Go.RowKit
open Go.Maps (Keyed int_keyed)
open Go.MapKept Go.ChangeMaps
open Go.WideElems (findIdx_born findIdx_arr modify_last set_self)

theorem uImE : Tryz.prog.underlying 225 = some (.map 3 3) := by kernel_rfl
theorem zImE (w : World) : (zeroValue 3).run Tryz.prog w = .ok (.int .i64 0) w := by kernel_rfl
/-- How such an element reads. -/
def natElemE : Value → Option (DataW Unit × List MemPlace)
  | .int .i64 n => some (.lit (.int .i64 n), [])
  | _ => none
theorem natElemE_of (n : Int) : natElemE (.int .i64 n) = some (.lit (.int .i64 n), []) := rfl
theorem natElemE_inv {v : Value} {n : Int} {ps : List MemPlace} (h : natElemE v = some (.lit (.int .i64 n), ps)) : v = .int .i64 n := by
  unfold natElemE at h
  split at h
  · simp only [Option.some.injEq, Prod.mk.injEq, DataW.lit.injEq, Lit.int.injEq, true_and] at h
    rw [h.1]
  · cases h
/-- Block b is a map of at most n entries that sends numbers to numbers as f does. -/
def IMapE (w : World) (b n : Nat) (f : Nat → Nat) : Prop :=
  ∃ D, w.ownsMap Tryz.prog 3 natElemE b n D ∧ ∀ k : Nat, D.atKey (.int .i64 k) (.lit (.int .i64 0)) = .lit (.int .i64 (f k))
theorem IMapE.made (w : World) : IMapE (w.alloc (.map #[] 0)) w.heap.size 0 fun _ => 0 := ⟨_, World.ownsMap_made _ _ _ _, fun _ => rfl⟩
theorem IMapE.same {w w' : World} {b n : Nat} {f : Nat → Nat} (h : IMapE w b n f) (hb : w'.heap[b]? = w.heap[b]?) : IMapE w' b n f := by
  obtain ⟨D, ⟨es, clock, h1, h2⟩, h3⟩ := h
  exact ⟨D, ⟨es, clock, hb.trans h1, h2⟩, h3⟩
theorem IMapE.obj {w : World} {b n : Nat} {f : Nat → Nat} (h : IMapE w b n f) : ∃ es cl, w.heap[b]? = some (.map es cl) := by
  obtain ⟨D, ⟨es, clock, h1, h2⟩, h3⟩ := h
  exact ⟨es, clock, h1⟩
theorem IMapE.look {w : World} {b n : Nat} {f : Nat → Nat} (h : IMapE w b n f) (k : Nat) (hk : k ≤ 1000000000) :
    (Instr.lookup 225 (.map (some b)) (.int .i64 k) false).run Tryz.prog w = .ok (.int .i64 (f k)) w := by
  obtain ⟨D, h1, h2⟩ := h
  obtain ⟨v, ps, hrun, hv⟩ := h1.lookup lawIntE uImE (zImE w) (zd := .lit (.int .i64 0)) (zp := []) (natElemE_of 0) (keyIntE (n := k) (by omega) (by omega))
  rw [h2 k] at hv
  rw [natElemE_inv hv] at hrun
  exact hrun
theorem IMapE.store {w : World} {b n : Nat} {f : Nat → Nat} (h : IMapE w b n f) (hn : n < maxLen) (k : Nat) (hk : k ≤ 1000000000) (c : Nat) :
    ∃ w', (Instr.mapUpdate 225 (.map (some b)) (.int .i64 k) (.int .i64 c)).run Tryz.prog w = .ok () w' ∧ IMapE w' b (n + 1) (fun j => if j = k then c else f j) ∧ w.grownBy w' (some b) := by
  obtain ⟨D, h1, h2⟩ := h
  obtain ⟨w', hrun, h3, h4⟩ := h1.update lawIntE uImE hn (keyIntE (n := k) (by omega) (by omega)) (natElemE_of c)
  have hkl : WideAt.IsKeyLit (.int .i64 (k : Int)) := by simp [WideAt.IsKeyLit]
  refine ⟨w', hrun, ⟨_, h3, fun j => ?_⟩, h4⟩
  by_cases hjk : j = k
  · subst hjk; rw [Maps.atKey_put_same h1.isMap hkl]; simp
  · rw [Maps.atKey_put_other (by simp; omega), h2 j]; simp [hjk]

/-- Written in two strokes: the place is found (or made), then filled. -/
theorem IMapE.entry {w : World} {b n : Nat} {f : Nat → Nat} (h : IMapE w b n f) (hn : n < maxLen) (k : Nat) (hk : k ≤ 1000000000) (c : Nat) :
    ∃ (v0 : Value) (st : Nat) (es1 : Array MapEntry) (clock1 : Nat), (Instr.mapEntry 225 (.map (some b)) (.int .i64 k)).run Tryz.prog w = .ok (.tuple #[v0, goInt st]) (setBlock w b (.map es1 clock1)) ∧
      ∀ w2 : World, w2.heap[b]? = some (.map es1 clock1) → ∃ es' clock', (Instr.entryStore 225 (.map (some b)) (goInt st) (.int .i64 c)).run Tryz.prog w2 = .ok () (setBlock w2 b (.map es' clock')) ∧
        ∀ W : World, W.heap[b]? = some (.map es' clock') → IMapE W b (n + 1) (fun j => if j = k then c else f j) := by
  obtain ⟨w', hup, hm', hgr⟩ := h.store hn k hk c
  obtain ⟨D, ⟨es, clock, hb, F, hs, hD⟩, _⟩ := h
  have K : Keyed Tryz.prog 3 := lawIntE
  have hkey : keyOf Tryz.prog 3 (.int .i64 k) = some (.int .i64 k) := keyIntE (n := k) (by omega) (by omega)
  have ht := uImE
  have hz := fun u : World => zImE u
  obtain ⟨s1, s2, _⟩ := F.stamped
  have fin : ∀ (es' : Array MapEntry) (clock' : Nat), (Instr.mapUpdate 225 (.map (some b)) (.int .i64 k) (.int .i64 c)).run Tryz.prog w = .ok () (setBlock w b (.map es' clock')) →
      ∀ W : World, W.heap[b]? = some (.map es' clock') → IMapE W b (n + 1) (fun j => if j = k then c else f j) := by
    intro es' clock' hrun W hW
    rw [hup] at hrun
    obtain rfl : w' = setBlock w b (.map es' clock') := by simpa using hrun
    refine hm'.same (hW.trans ?_)
    have hlt := lt_of_some hb
    simp [setBlock, hlt]
  rcases K.find w hkey es.toList F.keys with ⟨h1, h2⟩ | ⟨j, e0, h1, h2, h3⟩
  · refine ⟨.int .i64 0, clock, es.push ⟨.int .i64 k, .int .i64 0, clock⟩, clock + 1, ?_, fun w2 hw2 => ⟨es.push ⟨.int .i64 k, .int .i64 c, clock⟩, clock + 1, ?_, fin _ _ ?_⟩⟩
    · simp [Instr.mapEntry, run_underlying ht, MapKept.run_getObj_map hb, K.check w false hkey, h1, hz, MapKept.run_setObj_map _ hb, Result.andThen, setBlock]
    · have hidx : (es.push ⟨.int .i64 k, .int .i64 0, clock⟩).findIdx? (fun e => ((e.born : Nat) : Int) == ((clock : Nat) : Int)) = some es.size := by
        rw [findIdx_arr]
        have := findIdx_born (l := (es.push ⟨.int .i64 k, .int .i64 0, clock⟩).toList) (j := es.size) (e0 := ⟨.int .i64 k, .int .i64 0, clock⟩) (by
          simp only [Array.toList_push, List.map_append, List.map_cons, List.map_nil]
          refine List.nodup_append.2 ⟨s2, by simp, fun a ha c hc e1 => ?_⟩
          simp only [List.mem_singleton] at hc
          obtain ⟨x, hx, rfl⟩ := List.mem_map.1 ha
          have := s1 x hx
          omega) (by simp)
        exact this
      have hmod : (es.push ⟨.int .i64 k, .int .i64 0, clock⟩).modify es.size (fun e => { e with val := .int .i64 c }) = es.push ⟨.int .i64 k, .int .i64 c, clock⟩ := by
        apply Array.ext'
        rw [Array.toList_modify, Array.toList_push, Array.toList_push, ← Array.length_toList, modify_last]
      simp [Instr.entryStore, MapKept.run_getObj_map hw2, asInt, asIntOf, goInt, hidx, hmod, MapKept.run_setObj_map _ hw2, Result.andThen, setBlock]
    · simp [Instr.mapUpdate, run_underlying ht, MapKept.run_getObj_map hb, K.check w false hkey, h1, MapKept.run_setObj_map _ hb, Result.andThen, setBlock]
  · have hj : es[j]? = some e0 := by simpa using h2
    have hsame : es.modify j (fun e => { e with key := .int .i64 k }) = es := by
      apply Array.ext'
      rw [Array.toList_modify, modify_eq_set _ _ _ _ h2]
      have : ({ e0 with key := .int .i64 k } : MapEntry) = e0 := by rw [← h3]
      rw [this]
      exact set_self _ _ _ h2
    refine ⟨e0.val, e0.born, es, clock, ?_, fun w2 hw2 => ⟨es.modify j (fun e' => { e' with key := .int .i64 k, val := .int .i64 c }), clock, ?_, fin _ _ ?_⟩⟩
    · simp [Instr.mapEntry, run_underlying ht, MapKept.run_getObj_map hb, K.check w false hkey, h1, hj, h3, K.stays w hkey, hsame, MapKept.run_setObj_map _ hb, Result.andThen, setBlock]
    · have hidx : es.findIdx? (fun e => ((e.born : Nat) : Int) == ((e0.born : Nat) : Int)) = some j := by
        rw [findIdx_arr]
        exact findIdx_born s2 h2
      have hmod : es.modify j (fun e => { e with val := .int .i64 c }) = es.modify j (fun e' => { e' with key := .int .i64 k, val := .int .i64 c }) := by
        apply Array.ext'
        rw [Array.toList_modify, Array.toList_modify, modify_eq_set _ _ _ _ h2, modify_eq_set _ _ _ _ h2, ← h3]
      simp [Instr.entryStore, MapKept.run_getObj_map hw2, asInt, asIntOf, goInt, hidx, hmod, MapKept.run_setObj_map _ hw2, Result.andThen, setBlock]
    · simp [Instr.mapUpdate, run_underlying ht, MapKept.run_getObj_map hb, K.check w false hkey, h1, hj, h3, K.stays w hkey, MapKept.run_setObj_map _ hb, Result.andThen, setBlock]
theorem keeps_set (w : World) (b : Nat) (o : Obj) : Keeps [b] w (setBlock w b o) := by
  refine ⟨rfl, rfl, rfl, by simp [setBlock], fun k hk hm => ?_⟩
  have hne : b ≠ k := by rintro rfl; simp at hm
  simp [setBlock, Array.getElem?_setIfInBounds_ne hne]
/-- The two strokes, one behind the other. -/
theorem IMapE.two {w : World} {b n : Nat} {f : Nat → Nat} (h : IMapE w b n f) (hn : n < maxLen) (k : Nat) (hk : k ≤ 1000000000) (c : Nat) :
    ∃ (v0 : Value) (st : Nat) (W1 W2 : World), (Instr.mapEntry 225 (.map (some b)) (.int .i64 k)).run Tryz.prog w = .ok (.tuple #[v0, .int .i64 (st : Int)]) W1 ∧ (Instr.entryStore 225 (.map (some b)) (.int .i64 (st : Int)) (.int .i64 c)).run Tryz.prog W1 = .ok () W2 ∧
      Keeps [b] w W1 ∧ Keeps [b] w W2 ∧ IMapE W2 b (n + 1) (fun j => if j = k then c else f j) := by
  obtain ⟨v0, st, es1, cl1, h1, h2⟩ := h.entry hn k hk c
  obtain ⟨es, cl, ho⟩ := h.obj
  have hlt := lt_of_some ho
  obtain ⟨es', cl', h3, h4⟩ := h2 (setBlock w b (.map es1 cl1)) (by simp [setBlock, hlt])
  have hk1 := keeps_set w b (.map es1 cl1)
  exact ⟨v0, st, _, _, h1, h3, hk1, hk1.trans (keeps_set _ b (.map es' cl')) (fun _ h => .inl h), h4 _ (by simp [setBlock, hlt])⟩
end Go.Proofs.YtpbplpnifjbkoabGreatDoor

namespace Go.Proofs.YtpbplpnifjbkoabGreatDoor
open Go.RowKit

theorem qgA {α : Type} (l : List α) (i : Nat) : l.toArray[i]? = l[i]? := List.getElem?_toArray
theorem qgB {α : Type} (a : α) (l : List α) (i : Nat) : (a :: l)[i + 1]? = l[i]? := List.getElem?_cons_succ
theorem qgC {α : Type} (a : α) (l : List α) : (a :: l)[0]? = some a := List.getElem?_cons_zero
theorem qsA {α : Type} (l : List α) (i : Nat) (a : α) : l.toArray.setIfInBounds i a = (l.set i a).toArray := List.setIfInBounds_toArray ..
theorem qsB {α : Type} (a b : α) (l : List α) : (b :: l).set 0 a = a :: l := rfl
theorem qsC {α : Type} (a b : α) (l : List α) (i : Nat) : (b :: l).set (i + 1) a = b :: l.set i a := rfl
theorem nodup_few (N : Nat) : ∀ l : List Nat, l.Nodup → (∀ x ∈ l, 1 ≤ x ∧ x ≤ N) → l.length ≤ N := by
  induction N with
  | zero =>
    intro l _ h
    cases l with
    | nil => simp
    | cons a r => have := h a (by simp); omega
  | succ N ih =>
    intro l hn h
    by_cases hm : N + 1 ∈ l
    · have h1 := ih (l.erase (N + 1)) (hn.erase _) fun x hx => by
        have := (hn.mem_erase_iff).1 hx
        have := h x this.2
        omega
      rw [List.length_erase_of_mem hm] at h1
      omega
    · have := ih l hn fun x hx => by
        have h1 := h x hx
        have : x ≠ N + 1 := by rintro rfl; exact hm hx
        omega
      omega
theorem mem_of_lookup {l : List (Nat × Nat)} {k u : Nat} (h : l.lookup k = some u) : (k, u) ∈ l := by
  induction l with
  | nil => simp at h
  | cons p r ih =>
    obtain ⟨a, c⟩ := p
    rw [List.lookup_cons] at h
    by_cases e : k = a
    · subst e
      simp only [BEq.rfl, Option.some.injEq] at h
      subst h
      simp
    · rw [beq_false_of_ne e] at h
      exact List.mem_cons_of_mem _ (ih h)
theorem lookup_none_mem {l : List (Nat × Nat)} {k : Nat} (h : l.lookup k = none) : k ∉ l.map (·.1) := by
  induction l with
  | nil => simp
  | cons p r ih =>
    obtain ⟨a, c⟩ := p
    rw [List.lookup_cons] at h
    by_cases e : k = a
    · subst e
      simp at h
    · rw [beq_false_of_ne e] at h
      simp only [List.map_cons, List.mem_cons, not_or]
      exact ⟨e, ih h⟩
/-- Keys are numbers of variables, each once; what they stand for is no nought. -/
def Pairs (N : Nat) (l : List (Nat × Nat)) : Prop := (l.map (·.1)).Nodup ∧ ∀ p ∈ l, (1 ≤ p.1 ∧ p.1 ≤ N) ∧ 1 ≤ p.2
theorem Pairs.few {N : Nat} {l : List (Nat × Nat)} (h : Pairs N l) : l.length ≤ N := by
  have := nodup_few N (l.map (·.1)) h.1 fun x hx => by
    obtain ⟨p, hp, rfl⟩ := List.mem_map.1 hx
    exact (h.2 p hp).1
  simpa using this
theorem Pairs.push {N : Nat} {l : List (Nat × Nat)} (h : Pairs N l) {v w : Nat} (h1 : 1 ≤ v) (h2 : v ≤ N) (h3 : 1 ≤ w) (hl : (l.lookup v).getD 0 = 0) : Pairs N ((v, w) :: l) := by
  have hn : l.lookup v = none := by
    cases e : l.lookup v with
    | none => rfl
    | some u =>
      have := (h.2 _ (mem_of_lookup e)).2
      rw [e] at hl
      simp at hl
      omega
  refine ⟨?_, fun p hp => ?_⟩
  · simp only [List.map_cons, List.nodup_cons]
    exact ⟨lookup_none_mem hn, h.1⟩
  · rcases List.mem_cons.1 hp with rfl | hp
    · exact ⟨⟨h1, h2⟩, h3⟩
    · exact h.2 p hp
theorem Pairs.look {N : Nat} {l : List (Nat × Nat)} (h : Pairs N l) (v : Nat) : (l.lookup v = none ∧ (l.lookup v).getD 0 = 0) ∨ ∃ u, l.lookup v = some u ∧ (l.lookup v).getD 0 = u ∧ 1 ≤ u := by
  cases e : l.lookup v with
  | none => exact .inl ⟨rfl, rfl⟩
  | some u => exact .inr ⟨u, rfl, rfl, (h.2 _ (mem_of_lookup e)).2⟩
/-- Two variables, by what the maps say: nought where there is none. -/
theorem alike_vv {N : Nat} {a b : List Nat} {v w : Nat} {to fr : List (Nat × Nat)} (ht : Pairs N to) (hf : Pairs N fr) (hv : 1 ≤ v) (hw : 1 ≤ w) :
    alikeT a b (.var v) (.var w) to fr = if v ∈ a ∧ w ∈ b then (if (to.lookup v).getD 0 = 0 ∧ (fr.lookup w).getD 0 = 0 then some ((v, w) :: to, (w, v) :: fr) else if (to.lookup v).getD 0 = w ∧ (fr.lookup w).getD 0 = v then some (to, fr) else none)
      else if ¬ v ∈ a ∧ ¬ w ∈ b ∧ v = w then some (to, fr) else none := by
  simp only [alikeT]
  by_cases h : v ∈ a ∧ w ∈ b
  · rw [if_pos h, if_pos h]
    rcases ht.look v with ⟨h1, h2⟩ | ⟨u, h1, h2, h3⟩ <;> rcases hf.look w with ⟨g1, g2⟩ | ⟨x, g1, g2, g3⟩ <;> rw [h1, g1]
    · simp
    · have : ¬ x = 0 := by omega
      have e : ¬ 0 = w := by omega
      simp [this, e]
    · have : ¬ u = 0 := by omega
      have e : ¬ 0 = v := by omega
      simp [this, e]
    · have h0 : ¬ u = 0 := by omega
      simp [h0]
  · rw [if_neg h, if_neg h]
theorem lookup_fun (l : List (Nat × Nat)) (v w : Nat) : (fun j => (((v, w) :: l).lookup j).getD 0) = fun j => if j = v then w else (l.lookup j).getD 0 := by
  funext j
  rw [List.lookup_cons]
  by_cases h : j = v
  · simp [h]
  · rw [beq_false_of_ne h, if_neg h]
theorem alike_mix {a b : List Nat} {x y : Ty} (h : isVarT x ≠ isVarT y) (to fr : List (Nat × Nat)) : alikeT a b x y to fr = none := by
  cases x <;> cases y <;> first | (exact absurd rfl h) | (simp [isVarT] at h; done) | rfl
theorem vvT (v : Value) (xT : TypeId) (w : World) : (Instr.typeAssert (.iface 178 v) xT 178 true).run Tryz.prog w = .ok (.tuple #[v, .bool true]) w := by kernel_rfl
theorem cvT (v : Value) (xT : TypeId) (w : World) : (Instr.typeAssert (.iface 183 v) xT 178 true).run Tryz.prog w = .ok (.tuple #[.pointer none, .bool false]) w := by kernel_rfl
theorem ccF (v : Value) (xT : TypeId) (w : World) : (Instr.typeAssert (.iface 183 v) xT 183 false).run Tryz.prog w = .ok v w := by kernel_rfl
theorem kids_sameA {a b : Ty} (h : kindT a = kindT b) : (kidsT a).length = (kidsT b).length := by
  cases a <;> cases b <;> first | rfl | simp [kindT, kInt, kBool, kList, kPair, kFun] at h
/-- Part by part. -/
def alikeK (a b : List Nat) : List Ty → List Ty → List (Nat × Nat) → List (Nat × Nat) → Option (List (Nat × Nat) × List (Nat × Nat))
  | x :: r, y :: s, to, fr => (alikeT a b x y to fr).bind fun p => alikeK a b r s p.1 p.2
  | [], [], to, fr => some (to, fr)
  | _, _, _, _ => none
theorem alike_kids {a b : List Nat} {x y : Ty} (hx : isVarT x = false) (hy : isVarT y = false) (to fr : List (Nat × Nat)) : alikeT a b x y to fr = if kindT x = kindT y then alikeK a b (kidsT x) (kidsT y) to fr else none := by
  have hb : ∀ m : Option (List (Nat × Nat) × List (Nat × Nat)), (m.bind fun p => some (p.1, p.2)) = m := fun m => by cases m <;> rfl
  cases x <;> cases y <;> simp only [isVarT, Bool.true_eq_false] at hx hy <;> simp [alikeT, kindT, kidsT, alikeK, kInt, kBool, kList, kPair, kFun, hb]
theorem alikeK_nil (a b : List Nat) (to fr : List (Nat × Nat)) : alikeK a b [] [] to fr = some (to, fr) := rfl
theorem alikeK_cons (a b : List Nat) (x y : Ty) (r s : List Ty) (to fr : List (Nat × Nat)) : alikeK a b (x :: r) (y :: s) to fr = (alikeT a b x y to fr).bind fun p => alikeK a b r s p.1 p.2 := rfl

/-- What the closure has captured: the schemes, the maps, itself; what the maps say. -/
structure AlkSt (sab sbb tbx fbx mbx tm fm : Nat) (ta tb ma mb : Value) (la lb : List Nat) (N : Nat) (to fr : List (Nat × Nat)) (w : World) : Prop where
  sa : w.heap[sab]? = some (.cells #[ta, ma] 119)
  sb : w.heap[sbb]? = some (.cells #[tb, mb] 119)
  tx : w.heap[tbx]? = some (.cells #[.map (some tm)] 225)
  fx : w.heap[fbx]? = some (.cells #[.map (some fm)] 225)
  mx : w.heap[mbx]? = some (.cells #[.func (.func 184) #[] #[.pointer (some ⟨sab, 0, none⟩), .pointer (some ⟨sbb, 0, none⟩), .pointer (some ⟨tbx, 0, none⟩), .pointer (some ⟨fbx, 0, none⟩), .pointer (some ⟨mbx, 0, none⟩)]] 181)
  al : SetAt w la ma
  bl : SetAt w lb mb
  an : ∀ k, ma = .map (some k) → k ≠ tm ∧ k ≠ fm
  bn : ∀ k, mb = .map (some k) → k ≠ tm ∧ k ≠ fm
  tf : tm ≠ fm
  pt : ∃ n, n ≤ to.length ∧ IMapE w tm n fun v => (to.lookup v).getD 0
  pf : ∃ n, n ≤ fr.length ∧ IMapE w fm n fun v => (fr.lookup v).getD 0
  kt : Pairs N to
  kf : Pairs N fr
theorem set_side [Inhabited Low] {M : List Nat} {w w' : World} {l : List Nat} {m : Value} (h : SetAt w l m) (k : KV M w w') (hM : ∀ b, m = .map (some b) → b ∉ M) : SetAt w' l m := by
  rcases h with h | ⟨b, n, rfl, h⟩
  · exact .inl h
  · obtain ⟨es, cl, ho⟩ := h.obj
    exact .inr ⟨b, n, rfl, h.same ((k.blk ho (hM b rfl) (by simp)).trans ho.symm)⟩
theorem AlkSt.kv [Inhabited Low] {sab sbb tbx fbx mbx tm fm : Nat} {ta tb ma mb : Value} {la lb : List Nat} {N : Nat} {to fr : List (Nat × Nat)} {w w' : World} (h : AlkSt sab sbb tbx fbx mbx tm fm ta tb ma mb la lb N to fr w) (k : KV [] w w') : AlkSt sab sbb tbx fbx mbx tm fm ta tb ma mb la lb N to fr w' := by
  obtain ⟨n, hn, hp⟩ := h.pt
  obtain ⟨n', hn', hp'⟩ := h.pf
  obtain ⟨es, cl, ho⟩ := hp.obj
  obtain ⟨es', cl', ho'⟩ := hp'.obj
  exact ⟨k.blk h.sa (by simp) (by simp), k.blk h.sb (by simp) (by simp), k.blk h.tx (by simp) (by simp), k.blk h.fx (by simp) (by simp), k.blk h.mx (by simp) (by simp), set_side h.al k (by simp), set_side h.bl k (by simp), h.an, h.bn, h.tf,
    ⟨n, hn, hp.same ((k.blk ho (by simp) (by simp)).trans ho.symm)⟩, ⟨n', hn', hp'.same ((k.blk ho' (by simp) (by simp)).trans ho'.symm)⟩, h.kt, h.kf⟩
/-- The blocks behind the maps' being written. -/
theorem AlkSt.put [Inhabited Low] {sab sbb tbx fbx mbx tm fm : Nat} {ta tb ma mb : Value} {la lb : List Nat} {N : Nat} {to fr to' fr' : List (Nat × Nat)} {w w' : World} (h : AlkSt sab sbb tbx fbx mbx tm fm ta tb ma mb la lb N to fr w) (k : KV [tm, fm] w w')
    (pt : ∃ n, n ≤ to'.length ∧ IMapE w' tm n fun v => (to'.lookup v).getD 0) (pf : ∃ n, n ≤ fr'.length ∧ IMapE w' fm n fun v => (fr'.lookup v).getD 0) (kt : Pairs N to') (kf : Pairs N fr') : AlkSt sab sbb tbx fbx mbx tm fm ta tb ma mb la lb N to' fr' w' := by
  obtain ⟨n, hn, hp⟩ := h.pt
  obtain ⟨n', hn', hp'⟩ := h.pf
  obtain ⟨es, cl, ho⟩ := hp.obj
  obtain ⟨es', cl', ho'⟩ := hp'.obj
  have ne : ∀ {b : Nat} {cs : Array Value} {T : TypeId} {z : Nat × Nat}, w.heap[b]? = some (.cells cs T z) → b ∉ [tm, fm] := fun hb => by
    simp only [List.mem_cons, List.not_mem_nil, or_false, not_or]
    exact ⟨ne_objE hb ho (by simp), ne_objE hb ho' (by simp)⟩
  exact ⟨k.blk h.sa (ne h.sa) (by simp), k.blk h.sb (ne h.sb) (by simp), k.blk h.tx (ne h.tx) (by simp), k.blk h.fx (ne h.fx) (by simp), k.blk h.mx (ne h.mx) (by simp), set_side h.al k (fun b e => by have := h.an b e; simp [this.1, this.2]), set_side h.bl k (fun b e => by have := h.bn b e; simp [this.1, this.2]), h.an, h.bn, h.tf, pt, pf, kt, kf⟩

theorem AlkSt.maps {sab sbb tbx fbx mbx tm fm : Nat} {ta tb ma mb : Value} {la lb : List Nat} {N : Nat} {to fr : List (Nat × Nat)} {w : World} (h : AlkSt sab sbb tbx fbx mbx tm fm ta tb ma mb la lb N to fr w) : (∃ es cl, w.heap[tm]? = some (.map es cl)) ∧ ∃ es cl, w.heap[fm]? = some (.map es cl) := by
  obtain ⟨n, hn, hp⟩ := h.pt
  obtain ⟨n', hn', hp'⟩ := h.pf
  exact ⟨hp.obj, hp'.obj⟩
/-- The same behind a change of the maps alone. -/
theorem AlkSt.boxK {sab sbb tbx fbx mbx tm fm : Nat} {ta tb ma mb : Value} {la lb : List Nat} {N : Nat} {to fr : List (Nat × Nat)} {w w' : World} (h : AlkSt sab sbb tbx fbx mbx tm fm ta tb ma mb la lb N to fr w) (k : Keeps [tm, fm] w w') {b : Nat} {cs : Array Value} {T : TypeId} {z : Nat × Nat} (hb : w.heap[b]? = some (.cells cs T z)) : w'.heap[b]? = some (.cells cs T z) := by
  obtain ⟨⟨es, cl, ho⟩, es', cl', ho'⟩ := h.maps
  refine k.some hb ?_
  simp only [List.mem_cons, List.not_mem_nil, or_false, not_or]
  exact ⟨ne_objE hb ho (by simp), ne_objE hb ho' (by simp)⟩
section
variable [Inhabited Low] {sab sbb tbx fbx mbx tm fm : Nat} {ta tb ma mb : Value} {la lb : List Nat} {N : Nat} {to fr : List (Nat × Nat)} {w w' : World}
/-- The closure's own box behind a change of the maps. -/
theorem AlkSt.box (h : AlkSt sab sbb tbx fbx mbx tm fm ta tb ma mb la lb N to fr w) (k : KV [tm, fm] w w') {b : Nat} {cs : Array Value} {T : TypeId} {z : Nat × Nat} (hb : w.heap[b]? = some (.cells cs T z)) (hT : T ≠ 180) : w'.heap[b]? = some (.cells cs T z) := by
  obtain ⟨⟨es, cl, ho⟩, es', cl', ho'⟩ := h.maps
  refine k.blk hb ?_ fun N u nm e => ?_
  · simp only [List.mem_cons, List.not_mem_nil, or_false, not_or]
    exact ⟨ne_objE hb ho (by simp), ne_objE hb ho' (by simp)⟩
  · simp only [varO, Obj.cells.injEq] at e
    exact hT e.2.1
theorem AlkSt.kvK (h : AlkSt sab sbb tbx fbx mbx tm fm ta tb ma mb la lb N to fr w) (k : Keeps [tm, fm] w w') : KV [tm, fm] w w' := by
  obtain ⟨⟨es, cl, ho⟩, es', cl', ho'⟩ := h.maps
  refine k.kv fun m hm o hmo cs T z e => ?_
  simp only [List.mem_cons, List.not_mem_nil, or_false] at hm
  rcases hm with rfl | rfl
  · rw [ho] at hmo; cases hmo; cases e
  · rw [ho'] at hmo; cases hmo; cases e
def AlkPost (sab sbb tbx fbx mbx tm fm : Nat) (ta tb ma mb : Value) (la lb : List Nat) (N : Nat) (w : World) (r : Option (List (Nat × Nat) × List (Nat × Nat))) (e : Ending) (w' : World) : Prop :=
  KV [tm, fm] w w' ∧ match r with
  | some p => e = .returned (.bool true) ∧ AlkSt sab sbb tbx fbx mbx tm fm ta tb ma mb la lb N p.1 p.2 w'
  | none => e = .returned (.bool false)
theorem AlkPost.parts {r : Option (List (Nat × Nat) × List (Nat × Nat))} {e : Ending} (h : AlkPost sab sbb tbx fbx mbx tm fm ta tb ma mb la lb N w r e w') :
    KV [tm, fm] w w' ∧ ∃ c, e = .returned (.bool c) ∧ (c = true → ∃ p, r = some p ∧ AlkSt sab sbb tbx fbx mbx tm fm ta tb ma mb la lb N p.1 p.2 w') ∧ (c = false → r = none) := by
  obtain ⟨h1, h3⟩ := h
  refine ⟨h1, ?_⟩
  cases r with
  | some p => exact ⟨true, h3.1, fun _ => ⟨p, rfl, h3.2⟩, fun h => by cases h⟩
  | none => exact ⟨false, h3, fun h => (by cases h), fun _ => rfl⟩
theorem AlkPost.same {r : Option (List (Nat × Nat) × List (Nat × Nat))} {c : Bool} (h : AlkSt sab sbb tbx fbx mbx tm fm ta tb ma mb la lb N to fr w) (k : KV [] w w') (hr : r = if c then some (to, fr) else none) : AlkPost sab sbb tbx fbx mbx tm fm ta tb ma mb la lb N w r (.returned (.bool c)) w' := by
  refine ⟨k.mono (by simp), ?_⟩
  subst hr
  cases c
  · exact rfl
  · exact ⟨rfl, h.kv k⟩
theorem AlkPost.behind {r : Option (List (Nat × Nat) × List (Nat × Nat))} {w0 : World} {e : Ending} (h : AlkPost sab sbb tbx fbx mbx tm fm ta tb ma mb la lb N w r e w') (k : KV [] w0 w) : AlkPost sab sbb tbx fbx mbx tm fm ta tb ma mb la lb N w0 r e w' :=
  ⟨(k.mono (by simp)).trans h.1 (fun _ h => .inl h), h.2⟩
end
/-- The contract of the closure at a type. -/
def AlkOK [Inhabited Low] [Inhabited Bar] (sab sbb tbx fbx mbx tm fm : Nat) (ta tb ma mb : Value) (la lb vb : List Nat) (x : Ty) : Prop := ∀ (y : Ty) (to fr : List (Nat × Nat)) (w : World) (va vc : Value), TyE vb w x va → TyE vb w y vc →
  AlkSt sab sbb tbx fbx mbx tm fm ta tb ma mb la lb vb.length to fr w →
  Calls Tryz.prog 184 #[va, vc, .pointer (some ⟨sab, 0, none⟩), .pointer (some ⟨sbb, 0, none⟩), .pointer (some ⟨tbx, 0, none⟩), .pointer (some ⟨fbx, 0, none⟩), .pointer (some ⟨mbx, 0, none⟩)] w (AlkPost sab sbb tbx fbx mbx tm fm ta tb ma mb la lb vb.length w (alikeT la lb x y to fr))

theorem find_vT [Inhabited Low] {w : World} {v r : Value} (h : Fnd w v r) (hs : (∃ b, v = vV b) ∨ ∃ c, v = cV c) : Calls Tryz.prog 185 #[v] w fun e w' => e = .returned r ∧ KV [] w w' := by
  have HF := Lib.hid h
  rcases hs with ⟨b, rfl⟩ | ⟨b, rfl⟩
  all_goals
    clear h
    go_enter Tryz.func185, Tryz.ntmps185
    go_wp2_with fail
    first | refine (find_var HF.out).mono ?_ | refine (find_con HF.out).mono ?_
    rintro e w1 ⟨rfl, hk⟩
    go_wp2
    go_ret
    exact ⟨rfl, hk⟩
end Go.Proofs.YtpbplpnifjbkoabGreatDoor

namespace Go.Proofs.YtpbplpnifjbkoabGreatDoor
open Go.RowKit

set_option maxRecDepth 100000 in
set_option maxHeartbeats 8000000 in
theorem alk_var [Inhabited Low] [Inhabited Bar] {sab sbb tbx fbx mbx tm fm : Nat} {ta tb ma mb : Value} {la lb vb : List Nat} (hta : ∃ tt tp, ta = .iface tt tp) (htb : ∃ tt tp, tb = .iface tt tp) (hvb : vb.length ≤ 100000) (n : Nat) :
    AlkOK sab sbb tbx fbx mbx tm fm ta tb ma mb la lb vb (.var n) := by
  intro y to fr w va vc hx hy hst
  obtain ⟨r1, hf1⟩ := hx.fnd
  obtain ⟨r2, hf2⟩ := hy.fnd
  obtain ⟨tt1, tp1, rfl⟩ := hta
  obtain ⟨tt2, tp2, rfl⟩ := htb
  obtain ⟨mm1, rfl⟩ : ∃ mm, ma = .map mm := by rcases hst.al with ⟨rfl, _⟩ | ⟨b, n, rfl, _⟩ <;> exact ⟨_, rfl⟩
  obtain ⟨mm2, rfl⟩ : ∃ mm, mb = .map mm := by rcases hst.bl with ⟨rfl, _⟩ | ⟨b, n, rfl, _⟩ <;> exact ⟨_, rfl⟩
  have hs1 := hx.shape
  have hs2 := hy.shape
  have HX := Lib.hid hx
  have HY := Lib.hid hy
  have HST := Lib.hid hst
  have HF1 := Lib.hid hf1
  have HF2 := Lib.hid hf2
  have HS2 := Lib.hid hs2
  obtain ⟨ut1, up1, rfl⟩ : ∃ ut up, va = .iface ut up := by rcases hs1 with ⟨_, rfl⟩ | ⟨_, rfl⟩ <;> exact ⟨_, _, rfl⟩
  obtain ⟨ut2, up2, rfl⟩ : ∃ ut up, vc = .iface ut up := by rcases hs2 with ⟨_, rfl⟩ | ⟨_, rfl⟩ <;> exact ⟨_, _, rfl⟩
  clear hx hy hst hf1 hf2 hs2
  go_enter Tryz.func184, Tryz.ntmps184
  go_wp2_with fail
  refine (find_vT HF1.out hs1).mono ?_
  rintro e w1 ⟨rfl, hk1⟩
  have HK1 := Lib.hid hk1
  have HF1' := Lib.hid (hk1.fnd _ _ HF1.out)
  have HF2' := Lib.hid (hk1.fnd _ _ HF2.out)
  have hrs : ∃ rt rp, r1 = .iface rt rp := by
    have h := (hk1.te HX.out).res HF1'.out
    obtain ⟨b, nm, _, _, rfl, _, _⟩ := h
    exact ⟨_, _, rfl⟩
  obtain ⟨rt1, rp1, rfl⟩ := hrs
  clear hk1
  go_wp2_with fail
  refine (find_vT HF2'.out HS2.out).mono ?_
  rintro e w2 ⟨rfl, hk2⟩
  have hkk := HK1.out.trans0 hk2
  have hrx := (hkk.te HX.out).res (hkk.fnd _ _ HF1.out)
  have hry := (hkk.te HY.out).res (hkk.fnd _ _ HF2.out)
  obtain ⟨b1, nm1, hn1, hvb1, hr1, hlo1, hb1⟩ := hrx
  cases hr1
  have HK2 := Lib.hid hkk
  have H2 := Lib.hid (HST.out.kv hkk)
  have HB1 := Lib.hid hb1
  have hta := vvT (.pointer (some ⟨b1, 0, none⟩)) 116 w2
  have hnN : n ≤ vb.length := by have := (List.getElem?_eq_some_iff.1 hvb1).1; omega
  clear hk2 hkk HK1 HF1 HF2 HF1' HF2' HST hs1 HS2 hb1
  by_cases hyv : isVarT y = true
  · obtain ⟨n2, rfl⟩ : ∃ n2, y = .var n2 := by cases y <;> first | exact ⟨_, rfl⟩ | simp [isVarT] at hyv
    obtain ⟨b2, nm2, hn2, hvb2, hr2, hlo2, hb2⟩ := hry
    subst hr2
    have HB2 := Lib.hid hb2
    have htb := vvT (.pointer (some ⟨b2, 0, none⟩)) 116 w2
    have hnM : n2 ≤ vb.length := by have := (List.getElem?_eq_some_iff.1 hvb2).1; omega
    have hvv := alike_vv (a := la) (b := lb) H2.out.kt H2.out.kf hn1 hn2
    have HVV := Lib.hid hvv
    have a0 := cell_of_block H2.out.sa 0
    have a1 := cell_of_block H2.out.sa 1
    have d0 := cell_of_block H2.out.sb 0
    have d1 := cell_of_block H2.out.sb 1
    simp at a0 a1 d0 d1
    have HANY1 := Lib.hid (fun (W : World) (hW : Keeps [] w2 W) => any_any ((H2.out.kv hW.kv0).al) (hW.some HB1.out (by simp)) (by omega : n ≤ 1000000000) ⟨tt1, tp1, rfl⟩)
    have HANY2 := Lib.hid (fun (W : World) (hW : Keeps [] w2 W) => any_any ((H2.out.kv hW.kv0).bl) (hW.some HB2.out (by simp)) (by omega : n2 ≤ 1000000000) ⟨tt2, tp2, rfl⟩)
    have A0 := Lib.hid a0
    have A1 := Lib.hid a1
    have D0 := Lib.hid d0
    have D1 := Lib.hid d1
    clear hyv hb2 hvv
    go_wp2_with fail
    refine (HANY1.out _ (Keeps.refl [] w2)).mono ?_
    rintro e w3 ⟨rfl, hk3⟩
    have HK3 := Lib.hid hk3
    have a0 := hk3.cellSome a0 (by simp)
    have a1 := hk3.cellSome a1 (by simp)
    have d0 := hk3.cellSome d0 (by simp)
    have d1 := hk3.cellSome d1 (by simp)
    clear hk3 hta htb
    by_cases hna : n ∈ la
    · have hd : decide (n ∈ la) = true := by simpa using hna
      rw [hd]
      clear hd
      go_wp2_with fail
      refine (HANY2.out _ HK3.out).mono ?_
      rintro e w4 ⟨rfl, hk4⟩
      have HK4 := Lib.hid (HK3.out.trans0 hk4)
      have a0 := hk4.cellSome a0 (by simp)
      have a1 := hk4.cellSome a1 (by simp)
      have d0 := hk4.cellSome d0 (by simp)
      have d1 := hk4.cellSome d1 (by simp)
      clear hk4
      by_cases hnb : n2 ∈ lb
      · have hd : decide (n2 ∈ lb) = true := by simpa using hnb
        rw [hd]
        clear hd
        have HBOTH := Lib.hid (show n ∈ la ∧ n2 ∈ lb from ⟨hna, hnb⟩)
        clear hna hnb
        have H4 := Lib.hid (H2.out.kv HK4.out.kv0)
        have t0 : w4.cell? ⟨tbx, 0, none⟩ = some (.map (some tm)) := cell_of_block H4.out.tx 0
        have f0 : w4.cell? ⟨fbx, 0, none⟩ = some (.map (some fm)) := cell_of_block H4.out.fx 0
        have c1 : w4.cell? ⟨b1, 0, none⟩ = some (.int .i64 n) := cell_of_block (HK4.out.some HB1.out (by simp)) 0
        have c2 : w4.cell? ⟨b2, 0, none⟩ = some (.int .i64 n2) := cell_of_block (HK4.out.some HB2.out (by simp)) 0
        obtain ⟨k1, hk1, hp1⟩ := H4.out.pt
        obtain ⟨k2, hk2, hp2⟩ := H4.out.pf
        have HP1 := Lib.hid hp1
        have HP2 := Lib.hid hp2
        have l1 := (hp1.same (w' := w4.drew) rfl).look n (by omega)
        have l2 := (hp2.same (w' := w4.drew) rfl).look n2 (by omega)
        have l3 := (hp1.same (w' := w4.drew.drew) rfl).look n (by omega)
        have l4 := (hp2.same (w' := w4.drew.drew) rfl).look n2 (by omega)
        have hvv := HVV.out
        rw [if_pos HBOTH.out] at hvv
        have HKF := Lib.hid H4.out.kt.few
        have HKG := Lib.hid H4.out.kf.few
        have HR4 := Lib.hid HK4.out.kv0
        have hput := fun (W4 : World) (hkv : KV [tm, fm] w4 W4) (h1 : IMapE W4 tm (k1 + 1) fun j => if j = n then n2 else (to.lookup j).getD 0) (h2 : IMapE W4 fm (k2 + 1) fun j => if j = n2 then n else (fr.lookup j).getD 0) (e1 : (to.lookup n).getD 0 = 0) (e2 : (fr.lookup n2).getD 0 = 0) =>
          (AlkSt.put (to' := (n, n2) :: to) (fr' := (n2, n) :: fr) H4.out hkv ⟨k1 + 1, by simp; omega, by rw [lookup_fun]; exact h1⟩ ⟨k2 + 1, by simp; omega, by rw [lookup_fun]; exact h2⟩ (H4.out.kt.push hn1 hnN hn2 e1) (H4.out.kf.push hn2 hnM hn1 e2))
        have HPUT := Lib.hid hput
        clear hp1 hp2 hput
        generalize htu : (to.lookup n).getD 0 = tu at l1 l3 hvv
        generalize hfu : (fr.lookup n2).getD 0 = fu at l2 l4 hvv
        have HTU := Lib.hid htu
        have HFU := Lib.hid hfu
        have HVF := Lib.hid hvv
        have HB1L := Lib.hid hk1
        have HB2L := Lib.hid hk2
        clear htu hfu hvv HBOTH HVV HANY1 HANY2 a0 a1 d0 d1 hk1 hk2
        go_wp2_with fail
        by_cases hz1 : tu = 0
        · by_cases hz2 : fu = 0
          · have HZ1 := Lib.hid hz1
            have HZ2 := Lib.hid hz2
            have g1 : decide ((tu : Int) = (0 : Int)) = true := by simp; omega
            have g2 : ((tu : Int) == (0 : Int)) = true := by simp; omega
            have h1 : decide ((fu : Int) = (0 : Int)) = true := by simp; omega
            have h2 : ((fu : Int) == (0 : Int)) = true := by simp; omega
            clear hz1 hz2 l3 l4
            refine wp_region_held_drew (S := (fun W => W.cell? ⟨tbx, 0, none⟩ = some (.map (some tm)) ∧ W.cell? ⟨fbx, 0, none⟩ = some (.map (some fm)) ∧ W.cell? ⟨b1, 0, none⟩ = some (.int .i64 n) ∧ W.cell? ⟨b2, 0, none⟩ = some (.int .i64 n2) ∧ (Instr.lookup 225 (.map (some tm)) (.int .i64 n) false).run Tryz.prog W = .ok (.int .i64 tu) W ∧ (Instr.lookup 225 (.map (some fm)) (.int .i64 n2) false).run Tryz.prog W = .ok (.int .i64 fu) W)) (by kernel_rfl) ?_ (fun hHeld => ?_)
            · exact ⟨t0, f0, c1, c2, l1, l2⟩
            refine wpAnyH_take (i := 0) (by simp only [qgA, qgC]; rfl) (by kernel_rfl) (by kernel_rfl) (by kernel_rfl) (by exact fun _ _ _ h => h) (Or.inl ⟨by rfl, by intro w hSw; (try dsimp only at hSw); first | (go_simp; done) | (go_simp; with_reducible rfl)⟩) (by assumption) ?_
            try simp only [Act.put, qsA, qsB, qsC]
            refine wpAnyH_take (i := 1) (by simp only [qgA, qgB, qgC]; rfl) (by kernel_rfl) (by kernel_rfl) (by kernel_rfl) (by exact fun _ _ _ h => h) (Or.inl ⟨by rfl, by intro w hSw; (try dsimp only at hSw); first | (go_simp; done) | (go_simp; with_reducible rfl)⟩) (by assumption) ?_
            try simp only [Act.put, qsA, qsB, qsC]
            refine wpAnyH_take (i := 2) (by simp only [qgA, qgB, qgC]; rfl) (by kernel_rfl) (by kernel_rfl) (by kernel_rfl) (by exact fun _ _ _ h => h) (Or.inl ⟨by rfl, by intro w hSw; (try dsimp only at hSw); first | (go_simp; done) | (go_simp; with_reducible rfl)⟩) (by assumption) ?_
            try simp only [Act.put, qsA, qsB, qsC]
            refine wpAnyH_take (i := 3) (by simp only [qgA, qgB, qgC]; rfl) (by kernel_rfl) (by kernel_rfl) (by kernel_rfl) (by exact fun _ _ _ h => h) (Or.inl ⟨by rfl, by intro w hSw; (try dsimp only at hSw); first | (go_simp; done) | (go_simp; with_reducible rfl)⟩) (by assumption) ?_
            try simp only [Act.put, qsA, qsB, qsC]
            refine wpAnyH_take (i := 4) (by simp only [qgA, qgB, qgC]; rfl) (by kernel_rfl) (by kernel_rfl) (by kernel_rfl) (by exact fun _ _ _ h => h) (Or.inl ⟨by rfl, by intro w hSw; (try dsimp only at hSw); first | (go_simp; done) | (go_simp; with_reducible rfl)⟩) (by assumption) ?_
            try simp only [Act.put, qsA, qsB, qsC]
            refine wpAnyH_take (i := 5) (by simp only [qgA, qgB, qgC]; rfl) (by kernel_rfl) (by kernel_rfl) (by kernel_rfl) (by exact fun _ _ _ h => h) (Or.inl ⟨by rfl, by intro w hSw; (try dsimp only at hSw); first | (go_simp; done) | (go_simp; with_reducible rfl)⟩) (by assumption) ?_
            try simp only [Act.put, qsA, qsB, qsC]
            refine wpAnyH_take (i := 6) (by simp only [qgA, qgB, qgC]; rfl) (by kernel_rfl) (by kernel_rfl) (by kernel_rfl) (by exact fun _ _ _ h => h) (Or.inl ⟨by rfl, by intro w hSw; (try dsimp only at hSw); first | (go_simp; done) | (go_simp; with_reducible rfl)⟩) (by assumption) ?_
            try simp only [Act.put, qsA, qsB, qsC]
            refine wpAnyH_take (i := 7) (by simp only [qgA, qgB, qgC]; rfl) (by kernel_rfl) (by kernel_rfl) (by kernel_rfl) (by exact fun _ _ _ h => h) (Or.inl ⟨by rfl, by intro w hSw; (try dsimp only at hSw); first | (go_simp; done) | (go_simp; with_reducible rfl)⟩) (by assumption) ?_
            try simp only [Act.put, qsA, qsB, qsC]
            refine wpAnyH_take (i := 8) (by simp only [qgA, qgB, qgC]; rfl) (by kernel_rfl) (by kernel_rfl) (by kernel_rfl) (by exact fun _ _ _ h => h) (Or.inl ⟨by rfl, by intro w hSw; (try dsimp only at hSw); first | (go_simp; done) | (go_simp; with_reducible rfl)⟩) (by assumption) ?_
            try simp only [Act.put, qsA, qsB, qsC]
            refine wpAnyH_take (i := 9) (by simp only [qgA, qgB, qgC]; rfl) (by kernel_rfl) (by kernel_rfl) (by kernel_rfl) (by exact fun _ _ _ h => h) (Or.inl ⟨by rfl, by intro w hSw; (try dsimp only at hSw); first | (go_simp; done) | (go_simp; with_reducible rfl)⟩) (by assumption) ?_
            try simp only [Act.put, qsA, qsB, qsC]
            refine wpAnyH_take (i := 10) (by simp only [qgA, qgB, qgC]; rfl) (by kernel_rfl) (by kernel_rfl) (by kernel_rfl) (by exact fun _ _ _ h => h) (Or.inl ⟨by rfl, by intro w hSw; (try dsimp only at hSw); first | (go_simp; done) | (go_simp; with_reducible rfl)⟩) (by assumption) ?_
            try simp only [Act.put, qsA, qsB, qsC]
            refine wpAnyH_take (i := 11) (by simp only [qgA, qgB, qgC]; rfl) (by kernel_rfl) (by kernel_rfl) (by kernel_rfl) (by exact fun _ _ _ h => h) (Or.inl ⟨by rfl, by intro w hSw; (try dsimp only at hSw); first | (go_simp; done) | (go_simp; with_reducible rfl)⟩) (by assumption) ?_
            try simp only [Act.put, qsA, qsB, qsC]
            refine wpAnyH_take (i := 12) (by simp only [qgA, qgB, qgC]; rfl) (by kernel_rfl) (by kernel_rfl) (by kernel_rfl) (by exact fun _ _ _ h => h) (Or.inl ⟨by rfl, by intro w hSw; (try dsimp only at hSw); first | (go_simp; done) | (go_simp; with_reducible rfl)⟩) (by assumption) ?_
            try simp only [Act.put, qsA, qsB, qsC]
            refine wpAnyH_take (i := 13) (by simp only [qgA, qgB, qgC]; rfl) (by kernel_rfl) (by kernel_rfl) (by kernel_rfl) (by exact fun _ _ _ h => h) (Or.inl ⟨by rfl, by intro w hSw; (try dsimp only at hSw); first | (go_simp; done) | (go_simp; with_reducible rfl)⟩) (by assumption) ?_
            try simp only [Act.put, qsA, qsB, qsC]
            refine wpAnyH_take (i := 14) (by simp only [qgA, qgB, qgC]; rfl) (by kernel_rfl) (by kernel_rfl) (by kernel_rfl) (by exact fun _ _ _ h => h) (Or.inl ⟨by rfl, by intro w hSw; (try dsimp only at hSw); first | (go_simp; done) | (go_simp; with_reducible rfl)⟩) (by assumption) ?_
            try simp only [Act.put, qsA, qsB, qsC]
            refine wpAnyH_take (i := 15) (by simp only [qgA, qgB, qgC]; rfl) (by kernel_rfl) (by kernel_rfl) (by kernel_rfl) (by exact fun _ _ _ h => h) (Or.inl ⟨by rfl, by intro w hSw; (try dsimp only at hSw); first | (go_simp; done) | (go_simp; with_reducible rfl)⟩) (by assumption) ?_
            try simp only [Act.put, qsA, qsB, qsC]
            refine wpAnyH_done (by kernel_rfl) ?_ _
            obtain ⟨v1, s1, W1, W2, r1, r2, q1, q2, m2⟩ := (HP1.out.same (w' := w4.drew.drew) rfl).two (by unfold maxLen; have := HKF.out; have := HB1L.out; omega) n (by omega) n2
            obtain ⟨es, cl, ho1⟩ := HP1.out.obj
            obtain ⟨es', cl', ho2⟩ := HP2.out.obj
            have p2 : IMapE W2 fm k2 _ := HP2.out.same (q2.some ho2 (by simp; exact Ne.symm H4.out.tf) |>.trans ho2.symm)
            obtain ⟨v3, s3, W3, W4, r3, r4, q3, q4, m4⟩ := p2.two (by unfold maxLen; have := HKG.out; have := HB2L.out; omega) n2 (by omega) n
            have HW1 := Lib.hid (((Keeps.refl [tm, fm] w4).drew.drew).trans q1 (by simp))
            have HW2 := Lib.hid (((Keeps.refl [tm, fm] w4).drew.drew).trans q2 (by simp))
            have HW3 := Lib.hid (HW2.out.trans q3 (by simp))
            have HW4 := Lib.hid (HW2.out.trans q4 (by simp))
            have HSX := Lib.hid (fun (W : World) (hW : Keeps [tm, fm] w4 W) => (⟨cell_of_block (H4.out.boxK hW H4.out.tx) 0, cell_of_block (H4.out.boxK hW H4.out.fx) 0, cell_of_block (H4.out.boxK hW (HK4.out.some HB1.out (by simp))) 0, cell_of_block (H4.out.boxK hW (HK4.out.some HB2.out (by simp))) 0⟩ : W.cell? ⟨tbx, 0, none⟩ = some (.map (some tm)) ∧ W.cell? ⟨fbx, 0, none⟩ = some (.map (some fm)) ∧ W.cell? ⟨b1, 0, none⟩ = some (.int .i64 n) ∧ W.cell? ⟨b2, 0, none⟩ = some (.int .i64 n2)))
            have HSW1 := Lib.hid (HSX.out _ HW1.out)
            have HSW2 := Lib.hid (HSX.out _ HW2.out)
            have HSW3 := Lib.hid (HSX.out _ HW3.out)
            have HSW4 := Lib.hid (HSX.out _ HW4.out)
            obtain ⟨es2, cl2, ho3⟩ := m2.obj
            have m2' := m2.same (w' := W4) (q4.some ho3 (by simp; exact H4.out.tf) |>.trans ho3.symm)
            have HM2 := Lib.hid m2'
            have HM4 := Lib.hid m4
            have l5 := (m2'.same (w' := W4.drew) rfl).look n (by omega)
            have l6 := (m4.same (w' := W4.drew) rfl).look n2 (by omega)
            rw [if_pos rfl] at l5 l6
            have t5 := HSW4.out.1
            have f5 := HSW4.out.2.1
            have c5 := HSW4.out.2.2.1
            have c6 := HSW4.out.2.2.2
            clear m2 m2' m4 p2 q1 q2 q3 q4 ho1 ho2 ho3 l1 l2 g1 g2 h1 h2
            go_wp2_with fail
            refine wp_region_held_drew (S := (fun W => W.cell? ⟨tbx, 0, none⟩ = some (.map (some tm)) ∧ W.cell? ⟨fbx, 0, none⟩ = some (.map (some fm)) ∧ W.cell? ⟨b1, 0, none⟩ = some (.int .i64 n) ∧ W.cell? ⟨b2, 0, none⟩ = some (.int .i64 n2))) (by kernel_rfl) ?_ (fun hHeld => ?_)
            · exact ⟨t0, f0, c1, c2⟩
            refine wpAnyH_take (i := 0) (by simp only [qgA, qgC]; rfl) (by kernel_rfl) (by kernel_rfl) (by kernel_rfl) (by exact fun _ _ _ h => h) (Or.inl ⟨by rfl, by intro w hSw; (try dsimp only at hSw); first | (go_simp; done) | (go_simp; with_reducible rfl)⟩) (by assumption) ?_
            try simp only [Act.put, qsA, qsB, qsC]
            refine wpAnyH_take (i := 1) (by simp only [qgA, qgB, qgC]; rfl) (by kernel_rfl) (by kernel_rfl) (by kernel_rfl) (by exact fun _ _ _ h => h) (Or.inl ⟨by rfl, by intro w hSw; (try dsimp only at hSw); first | (go_simp; done) | (go_simp; with_reducible rfl)⟩) (by assumption) ?_
            try simp only [Act.put, qsA, qsB, qsC]
            refine wpAnyH_take (i := 2) (by simp only [qgA, qgB, qgC]; rfl) (by kernel_rfl) (by kernel_rfl) (by kernel_rfl) (by exact fun _ _ _ h => h) (Or.inl ⟨by rfl, by intro w hSw; (try dsimp only at hSw); first | (go_simp; done) | (go_simp; with_reducible rfl)⟩) (by assumption) ?_
            try simp only [Act.put, qsA, qsB, qsC]
            refine wpAnyH_take (i := 3) (by simp only [qgA, qgB, qgC]; rfl) (by kernel_rfl) (by kernel_rfl) (by kernel_rfl) (by exact fun _ _ _ h => h) (Or.inl ⟨by rfl, by intro w hSw; (try dsimp only at hSw); first | (go_simp; done) | (go_simp; with_reducible rfl)⟩) (by assumption) ?_
            try simp only [Act.put, qsA, qsB, qsC]
            refine wpAnyH_take (i := 4) (by simp only [qgA, qgB, qgC]; rfl) (by kernel_rfl) (by kernel_rfl) (by kernel_rfl) (by exact fun _ _ _ h => h) (Or.inl ⟨by rfl, by intro w hSw; (try dsimp only at hSw); first | (go_simp; done) | (go_simp; with_reducible rfl)⟩) (by assumption) ?_
            try simp only [Act.put, qsA, qsB, qsC]
            refine wpAnyH_take (i := 5) (by simp only [qgA, qgB, qgC]; rfl) (by kernel_rfl) (by kernel_rfl) (by kernel_rfl) (by exact fun _ _ _ h => h) (Or.inl ⟨by rfl, by intro w hSw; (try dsimp only at hSw); first | (go_simp; done) | (go_simp; with_reducible rfl)⟩) (by assumption) ?_
            try simp only [Act.put, qsA, qsB, qsC]
            refine wpAnyH_take (i := 6) (by simp only [qgA, qgB, qgC]; rfl) (by kernel_rfl) (by kernel_rfl) (by kernel_rfl) (by exact fun _ _ _ h => h) (Or.inl ⟨by rfl, by intro w hSw; (try dsimp only at hSw); first | (go_simp; done) | (go_simp; with_reducible rfl)⟩) (by assumption) ?_
            try simp only [Act.put, qsA, qsB, qsC]
            refine wpAnyH_take (i := 7) (by simp only [qgA, qgB, qgC]; rfl) (by kernel_rfl) (by kernel_rfl) (by kernel_rfl) (by exact fun _ _ _ h => h) (Or.inl ⟨by rfl, by intro w hSw; (try dsimp only at hSw); first | (go_simp; done) | (go_simp; with_reducible rfl)⟩) (by assumption) ?_
            try simp only [Act.put, qsA, qsB, qsC]
            refine wpAnyH_take (i := 8) (by simp only [qgA, qgB, qgC]; rfl) (by kernel_rfl) (by kernel_rfl) (by kernel_rfl) (by exact fun _ _ _ h => h) (Or.inl ⟨by rfl, by intro w hSw; (try dsimp only at hSw); first | (go_simp; done) | (go_simp; with_reducible rfl)⟩) (by assumption) ?_
            try simp only [Act.put, qsA, qsB, qsC]
            refine wpAnyH_take (i := 9) (by simp only [qgA, qgB, qgC]; rfl) (by kernel_rfl) (by kernel_rfl) (by kernel_rfl) (by exact fun _ _ _ h => h) (Or.inl ⟨by rfl, by intro w hSw; (try dsimp only at hSw); first | (go_simp; done) | (go_simp; with_reducible rfl)⟩) (by assumption) ?_
            try simp only [Act.put, qsA, qsB, qsC]
            refine wpAnyH_take (i := 10) (by simp only [qgA, qgB, qgC]; rfl) (by kernel_rfl) (by kernel_rfl) (by kernel_rfl) (by exact fun _ _ _ h => h) (Or.inl ⟨by rfl, by intro w hSw; (try dsimp only at hSw); first | (go_simp; done) | (go_simp; with_reducible rfl)⟩) (by assumption) ?_
            try simp only [Act.put, qsA, qsB, qsC]
            refine wpAnyH_take (i := 11) (by simp only [qgA, qgB, qgC]; rfl) (by kernel_rfl) (by kernel_rfl) (by kernel_rfl) (by exact fun _ _ _ h => h) (Or.inl ⟨by rfl, by intro w hSw; (try dsimp only at hSw); first | (go_simp; done) | (go_simp; with_reducible rfl)⟩) (by assumption) ?_
            try simp only [Act.put, qsA, qsB, qsC]
            refine wpAnyH_take (i := 12) (by simp only [qgA, qgB, qgC]; rfl) (by kernel_rfl) (by kernel_rfl) (by kernel_rfl) (by exact fun _ _ _ h => h) (Or.inl ⟨by rfl, by intro w hSw; (try dsimp only at hSw); first | (go_simp; done) | (go_simp; with_reducible rfl)⟩) (by assumption) ?_
            try simp only [Act.put, qsA, qsB, qsC]
            refine wpAnyH_take (i := 13) (by simp only [qgA, qgB, qgC]; rfl) (by kernel_rfl) (by kernel_rfl) (by kernel_rfl) (by exact fun _ _ _ h => h) (Or.inl ⟨by rfl, by intro w hSw; (try dsimp only at hSw); first | (go_simp; done) | (go_simp; with_reducible rfl)⟩) (by assumption) ?_
            try simp only [Act.put, qsA, qsB, qsC]
            refine wpAnyH_take (i := 14) (by simp only [qgA, qgB, qgC]; rfl) (by kernel_rfl) (by kernel_rfl) (by kernel_rfl) (by exact fun _ _ _ h => h) (Or.inl ⟨by rfl, by intro w hSw; (try dsimp only at hSw); first | (go_simp; done) | (go_simp; with_reducible rfl)⟩) (by assumption) ?_
            try simp only [Act.put, qsA, qsB, qsC]
            refine wpAnyH_take (i := 15) (by simp only [qgA, qgB, qgC]; rfl) (by kernel_rfl) (by kernel_rfl) (by kernel_rfl) (by exact fun _ _ _ h => h) (Or.inl ⟨by rfl, by intro w hSw; (try dsimp only at hSw); first | (go_simp; done) | (go_simp; with_reducible rfl)⟩) (by assumption) ?_
            try simp only [Act.put, qsA, qsB, qsC]
            refine wpAnyH_take (i := 16) (by simp only [qgA, qgB, qgC]; rfl) (by kernel_rfl) (by kernel_rfl) (by kernel_rfl) (by exact fun _ _ _ h => h) (Or.inl ⟨by rfl, by intro w hSw; (try dsimp only at hSw); first | (go_simp; done) | (go_simp; with_reducible rfl)⟩) (by assumption) ?_
            try simp only [Act.put, qsA, qsB, qsC]
            refine wpAnyH_take (i := 17) (by simp only [qgA, qgB, qgC]; rfl) (by kernel_rfl) (by kernel_rfl) (by kernel_rfl) (by exact fun _ _ _ h => h) (Or.inl ⟨by rfl, by intro w hSw; (try dsimp only at hSw); first | (go_simp; done) | (go_simp; with_reducible rfl)⟩) (by assumption) ?_
            try simp only [Act.put, qsA, qsB, qsC]
            refine wpAnyH_ready (rs := [18]) (by kernel_rfl) (by simp) ?_
            refine AllReadyH.cons rfl (fun K hK => ?_) AllReadyH.nil
            go_simp
            go_wp2_with fail
            refine hK.out _ _ HSW1.out (fun hHeld => ?_)
            clear hK K
            try simp only [Act.put, qsA, qsB, qsC]
            refine wpAnyH_take (i := 19) (by simp only [qgA, qgB, qgC]; rfl) (by kernel_rfl) (by kernel_rfl) (by kernel_rfl) (by exact fun _ _ _ h => h) (Or.inl ⟨by rfl, by intro w hSw; (try dsimp only at hSw); first | (go_simp; done) | (go_simp; with_reducible rfl)⟩) (by assumption) ?_
            try simp only [Act.put, qsA, qsB, qsC]
            refine wpAnyH_ready (rs := [20]) (by kernel_rfl) (by simp) ?_
            refine AllReadyH.cons rfl (fun K hK => ?_) AllReadyH.nil
            go_simp
            go_wp2_with fail
            refine hK.out _ _ HSW2.out (fun hHeld => ?_)
            clear hK K
            try simp only [Act.put, qsA, qsB, qsC]
            refine wpAnyH_ready (rs := [21]) (by kernel_rfl) (by simp) ?_
            refine AllReadyH.cons rfl (fun K hK => ?_) AllReadyH.nil
            go_simp
            go_wp2_with fail
            refine hK.out _ _ HSW3.out (fun hHeld => ?_)
            clear hK K
            try simp only [Act.put, qsA, qsB, qsC]
            refine wpAnyH_take (i := 22) (by simp only [qgA, qgB, qgC]; rfl) (by kernel_rfl) (by kernel_rfl) (by kernel_rfl) (by exact fun _ _ _ h => h) (Or.inl ⟨by rfl, by intro w hSw; (try dsimp only at hSw); first | (go_simp; done) | (go_simp; with_reducible rfl)⟩) (by assumption) ?_
            try simp only [Act.put, qsA, qsB, qsC]
            refine wpAnyH_ready (rs := [23]) (by kernel_rfl) (by simp) ?_
            refine AllReadyH.cons rfl (fun K hK => ?_) AllReadyH.nil
            go_simp
            go_wp2_with fail
            refine hK.out _ _ HSW4.out (fun hHeld => ?_)
            clear hK K
            try simp only [Act.put, qsA, qsB, qsC]
            refine wpAnyH_done (by kernel_rfl) ?_ _
            clear t0 f0 c1 c2 r1 r2 r3 r4
            go_wp2_with fail
            have g1 : decide ((n2 : Int) = (n2 : Int)) = true := by simp
            have g2 : ((n2 : Int) == (n2 : Int)) = true := by simp
            have h1 : decide ((n : Int) = (n : Int)) = true := by simp
            have h2 : ((n : Int) == (n : Int)) = true := by simp
            refine wp_region_held_drew (S := (fun W => W.cell? ⟨tbx, 0, none⟩ = some (.map (some tm)) ∧ W.cell? ⟨fbx, 0, none⟩ = some (.map (some fm)) ∧ W.cell? ⟨b1, 0, none⟩ = some (.int .i64 n) ∧ W.cell? ⟨b2, 0, none⟩ = some (.int .i64 n2) ∧ (Instr.lookup 225 (.map (some tm)) (.int .i64 n) false).run Tryz.prog W = .ok (.int .i64 n2) W ∧ (Instr.lookup 225 (.map (some fm)) (.int .i64 n2) false).run Tryz.prog W = .ok (.int .i64 n) W)) (by kernel_rfl) ?_ (fun hHeld => ?_)
            · exact ⟨t5, f5, c5, c6, l5, l6⟩
            refine wpAnyH_take (i := 0) (by simp only [qgA, qgC]; rfl) (by kernel_rfl) (by kernel_rfl) (by kernel_rfl) (by exact fun _ _ _ h => h) (Or.inl ⟨by rfl, by intro w hSw; (try dsimp only at hSw); first | (go_simp; done) | (go_simp; with_reducible rfl)⟩) (by assumption) ?_
            try simp only [Act.put, qsA, qsB, qsC]
            refine wpAnyH_take (i := 1) (by simp only [qgA, qgB, qgC]; rfl) (by kernel_rfl) (by kernel_rfl) (by kernel_rfl) (by exact fun _ _ _ h => h) (Or.inl ⟨by rfl, by intro w hSw; (try dsimp only at hSw); first | (go_simp; done) | (go_simp; with_reducible rfl)⟩) (by assumption) ?_
            try simp only [Act.put, qsA, qsB, qsC]
            refine wpAnyH_take (i := 2) (by simp only [qgA, qgB, qgC]; rfl) (by kernel_rfl) (by kernel_rfl) (by kernel_rfl) (by exact fun _ _ _ h => h) (Or.inl ⟨by rfl, by intro w hSw; (try dsimp only at hSw); first | (go_simp; done) | (go_simp; with_reducible rfl)⟩) (by assumption) ?_
            try simp only [Act.put, qsA, qsB, qsC]
            refine wpAnyH_take (i := 3) (by simp only [qgA, qgB, qgC]; rfl) (by kernel_rfl) (by kernel_rfl) (by kernel_rfl) (by exact fun _ _ _ h => h) (Or.inl ⟨by rfl, by intro w hSw; (try dsimp only at hSw); first | (go_simp; done) | (go_simp; with_reducible rfl)⟩) (by assumption) ?_
            try simp only [Act.put, qsA, qsB, qsC]
            refine wpAnyH_take (i := 4) (by simp only [qgA, qgB, qgC]; rfl) (by kernel_rfl) (by kernel_rfl) (by kernel_rfl) (by exact fun _ _ _ h => h) (Or.inl ⟨by rfl, by intro w hSw; (try dsimp only at hSw); first | (go_simp; done) | (go_simp; with_reducible rfl)⟩) (by assumption) ?_
            try simp only [Act.put, qsA, qsB, qsC]
            refine wpAnyH_take (i := 5) (by simp only [qgA, qgB, qgC]; rfl) (by kernel_rfl) (by kernel_rfl) (by kernel_rfl) (by exact fun _ _ _ h => h) (Or.inl ⟨by rfl, by intro w hSw; (try dsimp only at hSw); first | (go_simp; done) | (go_simp; with_reducible rfl)⟩) (by assumption) ?_
            try simp only [Act.put, qsA, qsB, qsC]
            refine wpAnyH_take (i := 6) (by simp only [qgA, qgB, qgC]; rfl) (by kernel_rfl) (by kernel_rfl) (by kernel_rfl) (by exact fun _ _ _ h => h) (Or.inl ⟨by rfl, by intro w hSw; (try dsimp only at hSw); first | (go_simp; done) | (go_simp; with_reducible rfl)⟩) (by assumption) ?_
            try simp only [Act.put, qsA, qsB, qsC]
            refine wpAnyH_take (i := 7) (by simp only [qgA, qgB, qgC]; rfl) (by kernel_rfl) (by kernel_rfl) (by kernel_rfl) (by exact fun _ _ _ h => h) (Or.inl ⟨by rfl, by intro w hSw; (try dsimp only at hSw); first | (go_simp; done) | (go_simp; with_reducible rfl)⟩) (by assumption) ?_
            try simp only [Act.put, qsA, qsB, qsC]
            refine wpAnyH_take (i := 8) (by simp only [qgA, qgB, qgC]; rfl) (by kernel_rfl) (by kernel_rfl) (by kernel_rfl) (by exact fun _ _ _ h => h) (Or.inl ⟨by rfl, by intro w hSw; (try dsimp only at hSw); first | (go_simp; done) | (go_simp; with_reducible rfl)⟩) (by assumption) ?_
            try simp only [Act.put, qsA, qsB, qsC]
            refine wpAnyH_take (i := 9) (by simp only [qgA, qgB, qgC]; rfl) (by kernel_rfl) (by kernel_rfl) (by kernel_rfl) (by exact fun _ _ _ h => h) (Or.inl ⟨by rfl, by intro w hSw; (try dsimp only at hSw); first | (go_simp; done) | (go_simp; with_reducible rfl)⟩) (by assumption) ?_
            try simp only [Act.put, qsA, qsB, qsC]
            refine wpAnyH_take (i := 10) (by simp only [qgA, qgB, qgC]; rfl) (by kernel_rfl) (by kernel_rfl) (by kernel_rfl) (by exact fun _ _ _ h => h) (Or.inl ⟨by rfl, by intro w hSw; (try dsimp only at hSw); first | (go_simp; done) | (go_simp; with_reducible rfl)⟩) (by assumption) ?_
            try simp only [Act.put, qsA, qsB, qsC]
            refine wpAnyH_take (i := 11) (by simp only [qgA, qgB, qgC]; rfl) (by kernel_rfl) (by kernel_rfl) (by kernel_rfl) (by exact fun _ _ _ h => h) (Or.inl ⟨by rfl, by intro w hSw; (try dsimp only at hSw); first | (go_simp; done) | (go_simp; with_reducible rfl)⟩) (by assumption) ?_
            try simp only [Act.put, qsA, qsB, qsC]
            refine wpAnyH_take (i := 12) (by simp only [qgA, qgB, qgC]; rfl) (by kernel_rfl) (by kernel_rfl) (by kernel_rfl) (by exact fun _ _ _ h => h) (Or.inl ⟨by rfl, by intro w hSw; (try dsimp only at hSw); first | (go_simp; done) | (go_simp; with_reducible rfl)⟩) (by assumption) ?_
            try simp only [Act.put, qsA, qsB, qsC]
            refine wpAnyH_take (i := 13) (by simp only [qgA, qgB, qgC]; rfl) (by kernel_rfl) (by kernel_rfl) (by kernel_rfl) (by exact fun _ _ _ h => h) (Or.inl ⟨by rfl, by intro w hSw; (try dsimp only at hSw); first | (go_simp; done) | (go_simp; with_reducible rfl)⟩) (by assumption) ?_
            try simp only [Act.put, qsA, qsB, qsC]
            refine wpAnyH_take (i := 14) (by simp only [qgA, qgB, qgC]; rfl) (by kernel_rfl) (by kernel_rfl) (by kernel_rfl) (by exact fun _ _ _ h => h) (Or.inl ⟨by rfl, by intro w hSw; (try dsimp only at hSw); first | (go_simp; done) | (go_simp; with_reducible rfl)⟩) (by assumption) ?_
            try simp only [Act.put, qsA, qsB, qsC]
            refine wpAnyH_take (i := 15) (by simp only [qgA, qgB, qgC]; rfl) (by kernel_rfl) (by kernel_rfl) (by kernel_rfl) (by exact fun _ _ _ h => h) (Or.inl ⟨by rfl, by intro w hSw; (try dsimp only at hSw); first | (go_simp; done) | (go_simp; with_reducible rfl)⟩) (by assumption) ?_
            try simp only [Act.put, qsA, qsB, qsC]
            refine wpAnyH_take (i := 16) (by simp only [qgA, qgB, qgC]; rfl) (by kernel_rfl) (by kernel_rfl) (by kernel_rfl) (by exact fun _ _ _ h => h) (Or.inl ⟨by rfl, by intro w hSw; (try dsimp only at hSw); first | (go_simp; done) | (go_simp; with_reducible rfl)⟩) (by assumption) ?_
            try simp only [Act.put, qsA, qsB, qsC]
            refine wpAnyH_take (i := 17) (by simp only [qgA, qgB, qgC]; rfl) (by kernel_rfl) (by kernel_rfl) (by kernel_rfl) (by exact fun _ _ _ h => h) (Or.inl ⟨by rfl, by intro w hSw; (try dsimp only at hSw); first | (go_simp; done) | (go_simp; with_reducible rfl)⟩) (by assumption) ?_
            try simp only [Act.put, qsA, qsB, qsC]
            refine wpAnyH_take (i := 18) (by simp only [qgA, qgB, qgC]; rfl) (by kernel_rfl) (by kernel_rfl) (by kernel_rfl) (by exact fun _ _ _ h => h) (Or.inl ⟨by rfl, by intro w hSw; (try dsimp only at hSw); first | (go_simp; done) | (go_simp; with_reducible rfl)⟩) (by assumption) ?_
            try simp only [Act.put, qsA, qsB, qsC]
            refine wpAnyH_take (i := 19) (by simp only [qgA, qgB, qgC]; rfl) (by kernel_rfl) (by kernel_rfl) (by kernel_rfl) (by exact fun _ _ _ h => h) (Or.inl ⟨by rfl, by intro w hSw; (try dsimp only at hSw); first | (go_simp; done) | (go_simp; with_reducible rfl)⟩) (by assumption) ?_
            try simp only [Act.put, qsA, qsB, qsC]
            refine wpAnyH_take (i := 20) (by simp only [qgA, qgB, qgC]; rfl) (by kernel_rfl) (by kernel_rfl) (by kernel_rfl) (by exact fun _ _ _ h => h) (Or.inl ⟨by rfl, by intro w hSw; (try dsimp only at hSw); first | (go_simp; done) | (go_simp; with_reducible rfl)⟩) (by assumption) ?_
            try simp only [Act.put, qsA, qsB, qsC]
            refine wpAnyH_take (i := 21) (by simp only [qgA, qgB, qgC]; rfl) (by kernel_rfl) (by kernel_rfl) (by kernel_rfl) (by exact fun _ _ _ h => h) (Or.inl ⟨by rfl, by intro w hSw; (try dsimp only at hSw); first | (go_simp; done) | (go_simp; with_reducible rfl)⟩) (by assumption) ?_
            try simp only [Act.put, qsA, qsB, qsC]
            refine wpAnyH_take (i := 22) (by simp only [qgA, qgB, qgC]; rfl) (by kernel_rfl) (by kernel_rfl) (by kernel_rfl) (by exact fun _ _ _ h => h) (Or.inl ⟨by rfl, by intro w hSw; (try dsimp only at hSw); first | (go_simp; done) | (go_simp; with_reducible rfl)⟩) (by assumption) ?_
            try simp only [Act.put, qsA, qsB, qsC]
            refine wpAnyH_take (i := 23) (by simp only [qgA, qgB, qgC]; rfl) (by kernel_rfl) (by kernel_rfl) (by kernel_rfl) (by exact fun _ _ _ h => h) (Or.inl ⟨by rfl, by intro w hSw; (try dsimp only at hSw); first | (go_simp; done) | (go_simp; with_reducible rfl)⟩) (by assumption) ?_
            try simp only [Act.put, qsA, qsB, qsC]
            refine wpAnyH_take (i := 24) (by simp only [qgA, qgB, qgC]; rfl) (by kernel_rfl) (by kernel_rfl) (by kernel_rfl) (by exact fun _ _ _ h => h) (Or.inl ⟨by rfl, by intro w hSw; (try dsimp only at hSw); first | (go_simp; done) | (go_simp; with_reducible rfl)⟩) (by assumption) ?_
            try simp only [Act.put, qsA, qsB, qsC]
            refine wpAnyH_done (by kernel_rfl) ?_ _
            go_wp2_with fail
            go_ret
            have hk := H4.out.kvK HW4.out
            have hp := HPUT.out _ hk HM2.out HM4.out (HTU.out.trans HZ1.out) (HFU.out.trans HZ2.out)
            refine ⟨((HK2.out.trans0 HR4.out).mono (by simp)).trans (hk.trans (((Keeps.refl [] W4).drew.kv0).mono (by simp)) (fun _ h => .inl h)) (fun _ h => .inl h), ?_⟩
            rw [HVF.out, if_pos ⟨HZ1.out, HZ2.out⟩]
            exact ⟨rfl, hp.kv (Keeps.refl [] W4).drew.kv0⟩
          · have hjunk := True.intro
            have hw0 : ¬ (0 = n2) := by omega
            have HZ1 := Lib.hid hz1
            have HZ2 := Lib.hid hz2
            have g1 : decide ((tu : Int) = (0 : Int)) = true := by simp; omega
            have g2 : ((tu : Int) == (0 : Int)) = true := by simp; omega
            have h1 : decide ((fu : Int) = (0 : Int)) = false := by simp; omega
            have h2 : ((fu : Int) == (0 : Int)) = false := by simp; omega
            have HQ := Lib.hid (show ¬ tu = n2 by omega)
            clear hz1 hz2
            refine wp_region_held_drew (S := (fun W => W.cell? ⟨tbx, 0, none⟩ = some (.map (some tm)) ∧ W.cell? ⟨fbx, 0, none⟩ = some (.map (some fm)) ∧ W.cell? ⟨b1, 0, none⟩ = some (.int .i64 n) ∧ W.cell? ⟨b2, 0, none⟩ = some (.int .i64 n2) ∧ (Instr.lookup 225 (.map (some tm)) (.int .i64 n) false).run Tryz.prog W = .ok (.int .i64 tu) W ∧ (Instr.lookup 225 (.map (some fm)) (.int .i64 n2) false).run Tryz.prog W = .ok (.int .i64 fu) W)) (by kernel_rfl) ?_ (fun hHeld => ?_)
            · exact ⟨t0, f0, c1, c2, l1, l2⟩
            refine wpAnyH_take (i := 0) (by simp only [qgA, qgC]; rfl) (by kernel_rfl) (by kernel_rfl) (by kernel_rfl) (by exact fun _ _ _ h => h) (Or.inl ⟨by rfl, by intro w hSw; (try dsimp only at hSw); first | (go_simp; done) | (go_simp; with_reducible rfl)⟩) (by assumption) ?_
            try simp only [Act.put, qsA, qsB, qsC]
            refine wpAnyH_take (i := 1) (by simp only [qgA, qgB, qgC]; rfl) (by kernel_rfl) (by kernel_rfl) (by kernel_rfl) (by exact fun _ _ _ h => h) (Or.inl ⟨by rfl, by intro w hSw; (try dsimp only at hSw); first | (go_simp; done) | (go_simp; with_reducible rfl)⟩) (by assumption) ?_
            try simp only [Act.put, qsA, qsB, qsC]
            refine wpAnyH_take (i := 2) (by simp only [qgA, qgB, qgC]; rfl) (by kernel_rfl) (by kernel_rfl) (by kernel_rfl) (by exact fun _ _ _ h => h) (Or.inl ⟨by rfl, by intro w hSw; (try dsimp only at hSw); first | (go_simp; done) | (go_simp; with_reducible rfl)⟩) (by assumption) ?_
            try simp only [Act.put, qsA, qsB, qsC]
            refine wpAnyH_take (i := 3) (by simp only [qgA, qgB, qgC]; rfl) (by kernel_rfl) (by kernel_rfl) (by kernel_rfl) (by exact fun _ _ _ h => h) (Or.inl ⟨by rfl, by intro w hSw; (try dsimp only at hSw); first | (go_simp; done) | (go_simp; with_reducible rfl)⟩) (by assumption) ?_
            try simp only [Act.put, qsA, qsB, qsC]
            refine wpAnyH_take (i := 4) (by simp only [qgA, qgB, qgC]; rfl) (by kernel_rfl) (by kernel_rfl) (by kernel_rfl) (by exact fun _ _ _ h => h) (Or.inl ⟨by rfl, by intro w hSw; (try dsimp only at hSw); first | (go_simp; done) | (go_simp; with_reducible rfl)⟩) (by assumption) ?_
            try simp only [Act.put, qsA, qsB, qsC]
            refine wpAnyH_take (i := 5) (by simp only [qgA, qgB, qgC]; rfl) (by kernel_rfl) (by kernel_rfl) (by kernel_rfl) (by exact fun _ _ _ h => h) (Or.inl ⟨by rfl, by intro w hSw; (try dsimp only at hSw); first | (go_simp; done) | (go_simp; with_reducible rfl)⟩) (by assumption) ?_
            try simp only [Act.put, qsA, qsB, qsC]
            refine wpAnyH_take (i := 6) (by simp only [qgA, qgB, qgC]; rfl) (by kernel_rfl) (by kernel_rfl) (by kernel_rfl) (by exact fun _ _ _ h => h) (Or.inl ⟨by rfl, by intro w hSw; (try dsimp only at hSw); first | (go_simp; done) | (go_simp; with_reducible rfl)⟩) (by assumption) ?_
            try simp only [Act.put, qsA, qsB, qsC]
            refine wpAnyH_take (i := 7) (by simp only [qgA, qgB, qgC]; rfl) (by kernel_rfl) (by kernel_rfl) (by kernel_rfl) (by exact fun _ _ _ h => h) (Or.inl ⟨by rfl, by intro w hSw; (try dsimp only at hSw); first | (go_simp; done) | (go_simp; with_reducible rfl)⟩) (by assumption) ?_
            try simp only [Act.put, qsA, qsB, qsC]
            refine wpAnyH_take (i := 8) (by simp only [qgA, qgB, qgC]; rfl) (by kernel_rfl) (by kernel_rfl) (by kernel_rfl) (by exact fun _ _ _ h => h) (Or.inl ⟨by rfl, by intro w hSw; (try dsimp only at hSw); first | (go_simp; done) | (go_simp; with_reducible rfl)⟩) (by assumption) ?_
            try simp only [Act.put, qsA, qsB, qsC]
            refine wpAnyH_take (i := 9) (by simp only [qgA, qgB, qgC]; rfl) (by kernel_rfl) (by kernel_rfl) (by kernel_rfl) (by exact fun _ _ _ h => h) (Or.inl ⟨by rfl, by intro w hSw; (try dsimp only at hSw); first | (go_simp; done) | (go_simp; with_reducible rfl)⟩) (by assumption) ?_
            try simp only [Act.put, qsA, qsB, qsC]
            refine wpAnyH_take (i := 10) (by simp only [qgA, qgB, qgC]; rfl) (by kernel_rfl) (by kernel_rfl) (by kernel_rfl) (by exact fun _ _ _ h => h) (Or.inl ⟨by rfl, by intro w hSw; (try dsimp only at hSw); first | (go_simp; done) | (go_simp; with_reducible rfl)⟩) (by assumption) ?_
            try simp only [Act.put, qsA, qsB, qsC]
            refine wpAnyH_take (i := 11) (by simp only [qgA, qgB, qgC]; rfl) (by kernel_rfl) (by kernel_rfl) (by kernel_rfl) (by exact fun _ _ _ h => h) (Or.inl ⟨by rfl, by intro w hSw; (try dsimp only at hSw); first | (go_simp; done) | (go_simp; with_reducible rfl)⟩) (by assumption) ?_
            try simp only [Act.put, qsA, qsB, qsC]
            refine wpAnyH_take (i := 12) (by simp only [qgA, qgB, qgC]; rfl) (by kernel_rfl) (by kernel_rfl) (by kernel_rfl) (by exact fun _ _ _ h => h) (Or.inl ⟨by rfl, by intro w hSw; (try dsimp only at hSw); first | (go_simp; done) | (go_simp; with_reducible rfl)⟩) (by assumption) ?_
            try simp only [Act.put, qsA, qsB, qsC]
            refine wpAnyH_take (i := 13) (by simp only [qgA, qgB, qgC]; rfl) (by kernel_rfl) (by kernel_rfl) (by kernel_rfl) (by exact fun _ _ _ h => h) (Or.inl ⟨by rfl, by intro w hSw; (try dsimp only at hSw); first | (go_simp; done) | (go_simp; with_reducible rfl)⟩) (by assumption) ?_
            try simp only [Act.put, qsA, qsB, qsC]
            refine wpAnyH_take (i := 14) (by simp only [qgA, qgB, qgC]; rfl) (by kernel_rfl) (by kernel_rfl) (by kernel_rfl) (by exact fun _ _ _ h => h) (Or.inl ⟨by rfl, by intro w hSw; (try dsimp only at hSw); first | (go_simp; done) | (go_simp; with_reducible rfl)⟩) (by assumption) ?_
            try simp only [Act.put, qsA, qsB, qsC]
            refine wpAnyH_take (i := 15) (by simp only [qgA, qgB, qgC]; rfl) (by kernel_rfl) (by kernel_rfl) (by kernel_rfl) (by exact fun _ _ _ h => h) (Or.inl ⟨by rfl, by intro w hSw; (try dsimp only at hSw); first | (go_simp; done) | (go_simp; with_reducible rfl)⟩) (by assumption) ?_
            try simp only [Act.put, qsA, qsB, qsC]
            refine wpAnyH_done (by kernel_rfl) ?_ _
            go_wp2_with fail
            clear g1 g2 h1 h2
            have hq := HQ.out
            have g1 : decide ((tu : Int) = (n2 : Int)) = false := by simp; omega
            have g2 : ((tu : Int) == (n2 : Int)) = false := by simp; omega
            clear hq
            refine wp_region_held_drew (S := (fun W => W.cell? ⟨tbx, 0, none⟩ = some (.map (some tm)) ∧ W.cell? ⟨fbx, 0, none⟩ = some (.map (some fm)) ∧ W.cell? ⟨b1, 0, none⟩ = some (.int .i64 n) ∧ W.cell? ⟨b2, 0, none⟩ = some (.int .i64 n2) ∧ (Instr.lookup 225 (.map (some tm)) (.int .i64 n) false).run Tryz.prog W = .ok (.int .i64 tu) W ∧ (Instr.lookup 225 (.map (some fm)) (.int .i64 n2) false).run Tryz.prog W = .ok (.int .i64 fu) W)) (by kernel_rfl) ?_ (fun hHeld => ?_)
            · exact ⟨t0, f0, c1, c2, l3, l4⟩
            refine wpAnyH_take (i := 0) (by simp only [qgA, qgC]; rfl) (by kernel_rfl) (by kernel_rfl) (by kernel_rfl) (by exact fun _ _ _ h => h) (Or.inl ⟨by rfl, by intro w hSw; (try dsimp only at hSw); first | (go_simp; done) | (go_simp; with_reducible rfl)⟩) (by assumption) ?_
            try simp only [Act.put, qsA, qsB, qsC]
            refine wpAnyH_take (i := 1) (by simp only [qgA, qgB, qgC]; rfl) (by kernel_rfl) (by kernel_rfl) (by kernel_rfl) (by exact fun _ _ _ h => h) (Or.inl ⟨by rfl, by intro w hSw; (try dsimp only at hSw); first | (go_simp; done) | (go_simp; with_reducible rfl)⟩) (by assumption) ?_
            try simp only [Act.put, qsA, qsB, qsC]
            refine wpAnyH_take (i := 2) (by simp only [qgA, qgB, qgC]; rfl) (by kernel_rfl) (by kernel_rfl) (by kernel_rfl) (by exact fun _ _ _ h => h) (Or.inl ⟨by rfl, by intro w hSw; (try dsimp only at hSw); first | (go_simp; done) | (go_simp; with_reducible rfl)⟩) (by assumption) ?_
            try simp only [Act.put, qsA, qsB, qsC]
            refine wpAnyH_take (i := 3) (by simp only [qgA, qgB, qgC]; rfl) (by kernel_rfl) (by kernel_rfl) (by kernel_rfl) (by exact fun _ _ _ h => h) (Or.inl ⟨by rfl, by intro w hSw; (try dsimp only at hSw); first | (go_simp; done) | (go_simp; with_reducible rfl)⟩) (by assumption) ?_
            try simp only [Act.put, qsA, qsB, qsC]
            refine wpAnyH_take (i := 4) (by simp only [qgA, qgB, qgC]; rfl) (by kernel_rfl) (by kernel_rfl) (by kernel_rfl) (by exact fun _ _ _ h => h) (Or.inl ⟨by rfl, by intro w hSw; (try dsimp only at hSw); first | (go_simp; done) | (go_simp; with_reducible rfl)⟩) (by assumption) ?_
            try simp only [Act.put, qsA, qsB, qsC]
            refine wpAnyH_take (i := 5) (by simp only [qgA, qgB, qgC]; rfl) (by kernel_rfl) (by kernel_rfl) (by kernel_rfl) (by exact fun _ _ _ h => h) (Or.inl ⟨by rfl, by intro w hSw; (try dsimp only at hSw); first | (go_simp; done) | (go_simp; with_reducible rfl)⟩) (by assumption) ?_
            try simp only [Act.put, qsA, qsB, qsC]
            refine wpAnyH_take (i := 6) (by simp only [qgA, qgB, qgC]; rfl) (by kernel_rfl) (by kernel_rfl) (by kernel_rfl) (by exact fun _ _ _ h => h) (Or.inl ⟨by rfl, by intro w hSw; (try dsimp only at hSw); first | (go_simp; done) | (go_simp; with_reducible rfl)⟩) (by assumption) ?_
            try simp only [Act.put, qsA, qsB, qsC]
            refine wpAnyH_take (i := 7) (by simp only [qgA, qgB, qgC]; rfl) (by kernel_rfl) (by kernel_rfl) (by kernel_rfl) (by exact fun _ _ _ h => h) (Or.inl ⟨by rfl, by intro w hSw; (try dsimp only at hSw); first | (go_simp; done) | (go_simp; with_reducible rfl)⟩) (by assumption) ?_
            try simp only [Act.put, qsA, qsB, qsC]
            refine wpAnyH_take (i := 8) (by simp only [qgA, qgB, qgC]; rfl) (by kernel_rfl) (by kernel_rfl) (by kernel_rfl) (by exact fun _ _ _ h => h) (Or.inl ⟨by rfl, by intro w hSw; (try dsimp only at hSw); first | (go_simp; done) | (go_simp; with_reducible rfl)⟩) (by assumption) ?_
            try simp only [Act.put, qsA, qsB, qsC]
            refine wpAnyH_take (i := 9) (by simp only [qgA, qgB, qgC]; rfl) (by kernel_rfl) (by kernel_rfl) (by kernel_rfl) (by exact fun _ _ _ h => h) (Or.inl ⟨by rfl, by intro w hSw; (try dsimp only at hSw); first | (go_simp; done) | (go_simp; with_reducible rfl)⟩) (by assumption) ?_
            try simp only [Act.put, qsA, qsB, qsC]
            refine wpAnyH_take (i := 10) (by simp only [qgA, qgB, qgC]; rfl) (by kernel_rfl) (by kernel_rfl) (by kernel_rfl) (by exact fun _ _ _ h => h) (Or.inl ⟨by rfl, by intro w hSw; (try dsimp only at hSw); first | (go_simp; done) | (go_simp; with_reducible rfl)⟩) (by assumption) ?_
            try simp only [Act.put, qsA, qsB, qsC]
            refine wpAnyH_take (i := 11) (by simp only [qgA, qgB, qgC]; rfl) (by kernel_rfl) (by kernel_rfl) (by kernel_rfl) (by exact fun _ _ _ h => h) (Or.inl ⟨by rfl, by intro w hSw; (try dsimp only at hSw); first | (go_simp; done) | (go_simp; with_reducible rfl)⟩) (by assumption) ?_
            try simp only [Act.put, qsA, qsB, qsC]
            refine wpAnyH_take (i := 12) (v := undef) (by simp only [qgA, qgB, qgC]; rfl) (by kernel_rfl) (by kernel_rfl) (by kernel_rfl) (by exact fun _ _ _ h => h) (Or.inr ⟨by rfl, rfl⟩) (by assumption) ?_
            try simp only [Act.put, qsA, qsB, qsC]
            refine wpAnyH_take (i := 13) (v := undef) (by simp only [qgA, qgB, qgC]; rfl) (by kernel_rfl) (by kernel_rfl) (by kernel_rfl) (by exact fun _ _ _ h => h) (Or.inr ⟨by rfl, rfl⟩) (by assumption) ?_
            try simp only [Act.put, qsA, qsB, qsC]
            refine wpAnyH_take (i := 14) (v := undef) (by simp only [qgA, qgB, qgC]; rfl) (by kernel_rfl) (by kernel_rfl) (by kernel_rfl) (by exact fun _ _ _ h => h) (Or.inr ⟨by rfl, rfl⟩) (by assumption) ?_
            try simp only [Act.put, qsA, qsB, qsC]
            refine wpAnyH_take (i := 15) (v := undef) (by simp only [qgA, qgB, qgC]; rfl) (by kernel_rfl) (by kernel_rfl) (by kernel_rfl) (by exact fun _ _ _ h => h) (Or.inr ⟨by rfl, rfl⟩) (by assumption) ?_
            try simp only [Act.put, qsA, qsB, qsC]
            refine wpAnyH_take (i := 16) (v := undef) (by simp only [qgA, qgB, qgC]; rfl) (by kernel_rfl) (by kernel_rfl) (by kernel_rfl) (by exact fun _ _ _ h => h) (Or.inr ⟨by rfl, rfl⟩) (by assumption) ?_
            try simp only [Act.put, qsA, qsB, qsC]
            refine wpAnyH_take (i := 17) (v := undef) (by simp only [qgA, qgB, qgC]; rfl) (by kernel_rfl) (by kernel_rfl) (by kernel_rfl) (by exact fun _ _ _ h => h) (Or.inr ⟨by rfl, rfl⟩) (by assumption) ?_
            try simp only [Act.put, qsA, qsB, qsC]
            refine wpAnyH_take (i := 18) (v := undef) (by simp only [qgA, qgB, qgC]; rfl) (by kernel_rfl) (by kernel_rfl) (by kernel_rfl) (by exact fun _ _ _ h => h) (Or.inr ⟨by rfl, rfl⟩) (by assumption) ?_
            try simp only [Act.put, qsA, qsB, qsC]
            refine wpAnyH_take (i := 19) (v := undef) (by simp only [qgA, qgB, qgC]; rfl) (by kernel_rfl) (by kernel_rfl) (by kernel_rfl) (by exact fun _ _ _ h => h) (Or.inr ⟨by rfl, rfl⟩) (by assumption) ?_
            try simp only [Act.put, qsA, qsB, qsC]
            refine wpAnyH_take (i := 20) (v := undef) (by simp only [qgA, qgB, qgC]; rfl) (by kernel_rfl) (by kernel_rfl) (by kernel_rfl) (by exact fun _ _ _ h => h) (Or.inr ⟨by rfl, rfl⟩) (by assumption) ?_
            try simp only [Act.put, qsA, qsB, qsC]
            refine wpAnyH_take (i := 21) (v := undef) (by simp only [qgA, qgB, qgC]; rfl) (by kernel_rfl) (by kernel_rfl) (by kernel_rfl) (by exact fun _ _ _ h => h) (Or.inr ⟨by rfl, rfl⟩) (by assumption) ?_
            try simp only [Act.put, qsA, qsB, qsC]
            refine wpAnyH_take (i := 22) (v := undef) (by simp only [qgA, qgB, qgC]; rfl) (by kernel_rfl) (by kernel_rfl) (by kernel_rfl) (by exact fun _ _ _ h => h) (Or.inr ⟨by rfl, rfl⟩) (by assumption) ?_
            try simp only [Act.put, qsA, qsB, qsC]
            refine wpAnyH_take (i := 23) (by simp only [qgA, qgB, qgC]; rfl) (by kernel_rfl) (by kernel_rfl) (by kernel_rfl) (by exact fun _ _ _ h => h) (Or.inl ⟨by rfl, by intro w hSw; (try dsimp only at hSw); first | (go_simp; done) | (go_simp; with_reducible rfl)⟩) (by assumption) ?_
            try simp only [Act.put, qsA, qsB, qsC]
            refine wpAnyH_take (i := 24) (by simp only [qgA, qgB, qgC]; rfl) (by kernel_rfl) (by kernel_rfl) (by kernel_rfl) (by exact fun _ _ _ h => h) (Or.inl ⟨by rfl, by intro w hSw; (try dsimp only at hSw); first | (go_simp; done) | (go_simp; with_reducible rfl)⟩) (by assumption) ?_
            try simp only [Act.put, qsA, qsB, qsC]
            refine wpAnyH_done (by kernel_rfl) ?_ _
            go_wp2_with fail
            go_ret
            refine ⟨((HK2.out.trans0 HR4.out).trans0 (Keeps.refl [] w4).drew.drew.kv0).mono (by simp), ?_⟩
            rw [HVF.out, if_neg (fun h => HZ2.out h.2), if_neg (fun h => HQ.out h.1)]
            exact rfl
        · by_cases he1 : tu = n2
          by_cases he2 : fu = n
          · have hjunk := True.intro
            have HZ1 := Lib.hid hz1
            have g1 : decide ((tu : Int) = (0 : Int)) = false := by simp; omega
            have g2 : ((tu : Int) == (0 : Int)) = false := by simp; omega
            clear hz1
            have HE1 := Lib.hid he1
            clear he1
            have HE2 := Lib.hid he2
            clear he2
            refine wp_region_held_drew (S := (fun W => W.cell? ⟨tbx, 0, none⟩ = some (.map (some tm)) ∧ W.cell? ⟨fbx, 0, none⟩ = some (.map (some fm)) ∧ W.cell? ⟨b1, 0, none⟩ = some (.int .i64 n) ∧ W.cell? ⟨b2, 0, none⟩ = some (.int .i64 n2) ∧ (Instr.lookup 225 (.map (some tm)) (.int .i64 n) false).run Tryz.prog W = .ok (.int .i64 tu) W ∧ (Instr.lookup 225 (.map (some fm)) (.int .i64 n2) false).run Tryz.prog W = .ok (.int .i64 fu) W)) (by kernel_rfl) ?_ (fun hHeld => ?_)
            · exact ⟨t0, f0, c1, c2, l1, l2⟩
            refine wpAnyH_take (i := 0) (by simp only [qgA, qgC]; rfl) (by kernel_rfl) (by kernel_rfl) (by kernel_rfl) (by exact fun _ _ _ h => h) (Or.inl ⟨by rfl, by intro w hSw; (try dsimp only at hSw); first | (go_simp; done) | (go_simp; with_reducible rfl)⟩) (by assumption) ?_
            try simp only [Act.put, qsA, qsB, qsC]
            refine wpAnyH_take (i := 1) (by simp only [qgA, qgB, qgC]; rfl) (by kernel_rfl) (by kernel_rfl) (by kernel_rfl) (by exact fun _ _ _ h => h) (Or.inl ⟨by rfl, by intro w hSw; (try dsimp only at hSw); first | (go_simp; done) | (go_simp; with_reducible rfl)⟩) (by assumption) ?_
            try simp only [Act.put, qsA, qsB, qsC]
            refine wpAnyH_take (i := 2) (by simp only [qgA, qgB, qgC]; rfl) (by kernel_rfl) (by kernel_rfl) (by kernel_rfl) (by exact fun _ _ _ h => h) (Or.inl ⟨by rfl, by intro w hSw; (try dsimp only at hSw); first | (go_simp; done) | (go_simp; with_reducible rfl)⟩) (by assumption) ?_
            try simp only [Act.put, qsA, qsB, qsC]
            refine wpAnyH_take (i := 3) (by simp only [qgA, qgB, qgC]; rfl) (by kernel_rfl) (by kernel_rfl) (by kernel_rfl) (by exact fun _ _ _ h => h) (Or.inl ⟨by rfl, by intro w hSw; (try dsimp only at hSw); first | (go_simp; done) | (go_simp; with_reducible rfl)⟩) (by assumption) ?_
            try simp only [Act.put, qsA, qsB, qsC]
            refine wpAnyH_take (i := 4) (by simp only [qgA, qgB, qgC]; rfl) (by kernel_rfl) (by kernel_rfl) (by kernel_rfl) (by exact fun _ _ _ h => h) (Or.inl ⟨by rfl, by intro w hSw; (try dsimp only at hSw); first | (go_simp; done) | (go_simp; with_reducible rfl)⟩) (by assumption) ?_
            try simp only [Act.put, qsA, qsB, qsC]
            refine wpAnyH_take (i := 5) (by simp only [qgA, qgB, qgC]; rfl) (by kernel_rfl) (by kernel_rfl) (by kernel_rfl) (by exact fun _ _ _ h => h) (Or.inl ⟨by rfl, by intro w hSw; (try dsimp only at hSw); first | (go_simp; done) | (go_simp; with_reducible rfl)⟩) (by assumption) ?_
            try simp only [Act.put, qsA, qsB, qsC]
            refine wpAnyH_take (i := 6) (by simp only [qgA, qgB, qgC]; rfl) (by kernel_rfl) (by kernel_rfl) (by kernel_rfl) (by exact fun _ _ _ h => h) (Or.inl ⟨by rfl, by intro w hSw; (try dsimp only at hSw); first | (go_simp; done) | (go_simp; with_reducible rfl)⟩) (by assumption) ?_
            try simp only [Act.put, qsA, qsB, qsC]
            refine wpAnyH_take (i := 7) (by simp only [qgA, qgB, qgC]; rfl) (by kernel_rfl) (by kernel_rfl) (by kernel_rfl) (by exact fun _ _ _ h => h) (Or.inl ⟨by rfl, by intro w hSw; (try dsimp only at hSw); first | (go_simp; done) | (go_simp; with_reducible rfl)⟩) (by assumption) ?_
            try simp only [Act.put, qsA, qsB, qsC]
            refine wpAnyH_take (i := 8) (v := undef) (by simp only [qgA, qgB, qgC]; rfl) (by kernel_rfl) (by kernel_rfl) (by kernel_rfl) (by exact fun _ _ _ h => h) (Or.inr ⟨by rfl, rfl⟩) (by assumption) ?_
            try simp only [Act.put, qsA, qsB, qsC]
            refine wpAnyH_take (i := 9) (v := undef) (by simp only [qgA, qgB, qgC]; rfl) (by kernel_rfl) (by kernel_rfl) (by kernel_rfl) (by exact fun _ _ _ h => h) (Or.inr ⟨by rfl, rfl⟩) (by assumption) ?_
            try simp only [Act.put, qsA, qsB, qsC]
            refine wpAnyH_take (i := 10) (v := undef) (by simp only [qgA, qgB, qgC]; rfl) (by kernel_rfl) (by kernel_rfl) (by kernel_rfl) (by exact fun _ _ _ h => h) (Or.inr ⟨by rfl, rfl⟩) (by assumption) ?_
            try simp only [Act.put, qsA, qsB, qsC]
            refine wpAnyH_take (i := 11) (v := undef) (by simp only [qgA, qgB, qgC]; rfl) (by kernel_rfl) (by kernel_rfl) (by kernel_rfl) (by exact fun _ _ _ h => h) (Or.inr ⟨by rfl, rfl⟩) (by assumption) ?_
            try simp only [Act.put, qsA, qsB, qsC]
            refine wpAnyH_take (i := 12) (v := undef) (by simp only [qgA, qgB, qgC]; rfl) (by kernel_rfl) (by kernel_rfl) (by kernel_rfl) (by exact fun _ _ _ h => h) (Or.inr ⟨by rfl, rfl⟩) (by assumption) ?_
            try simp only [Act.put, qsA, qsB, qsC]
            refine wpAnyH_take (i := 13) (v := undef) (by simp only [qgA, qgB, qgC]; rfl) (by kernel_rfl) (by kernel_rfl) (by kernel_rfl) (by exact fun _ _ _ h => h) (Or.inr ⟨by rfl, rfl⟩) (by assumption) ?_
            try simp only [Act.put, qsA, qsB, qsC]
            refine wpAnyH_take (i := 14) (v := undef) (by simp only [qgA, qgB, qgC]; rfl) (by kernel_rfl) (by kernel_rfl) (by kernel_rfl) (by exact fun _ _ _ h => h) (Or.inr ⟨by rfl, rfl⟩) (by assumption) ?_
            try simp only [Act.put, qsA, qsB, qsC]
            refine wpAnyH_take (i := 15) (by simp only [qgA, qgB, qgC]; rfl) (by kernel_rfl) (by kernel_rfl) (by kernel_rfl) (by exact fun _ _ _ h => h) (Or.inl ⟨by rfl, by intro w hSw; (try dsimp only at hSw); first | (go_simp; done) | (go_simp; with_reducible rfl)⟩) (by assumption) ?_
            try simp only [Act.put, qsA, qsB, qsC]
            refine wpAnyH_done (by kernel_rfl) ?_ _
            go_wp2_with fail
            clear g1 g2
            have he1 := HE1.out
            have g1 : decide ((tu : Int) = (n2 : Int)) = true := by simp; omega
            have g2 : ((tu : Int) == (n2 : Int)) = true := by simp; omega
            clear he1
            have he2 := HE2.out
            have h1 : decide ((fu : Int) = (n : Int)) = true := by simp; omega
            have h2 : ((fu : Int) == (n : Int)) = true := by simp; omega
            clear he2
            refine wp_region_held_drew (S := (fun W => W.cell? ⟨tbx, 0, none⟩ = some (.map (some tm)) ∧ W.cell? ⟨fbx, 0, none⟩ = some (.map (some fm)) ∧ W.cell? ⟨b1, 0, none⟩ = some (.int .i64 n) ∧ W.cell? ⟨b2, 0, none⟩ = some (.int .i64 n2) ∧ (Instr.lookup 225 (.map (some tm)) (.int .i64 n) false).run Tryz.prog W = .ok (.int .i64 tu) W ∧ (Instr.lookup 225 (.map (some fm)) (.int .i64 n2) false).run Tryz.prog W = .ok (.int .i64 fu) W)) (by kernel_rfl) ?_ (fun hHeld => ?_)
            · exact ⟨t0, f0, c1, c2, l3, l4⟩
            refine wpAnyH_take (i := 0) (by simp only [qgA, qgC]; rfl) (by kernel_rfl) (by kernel_rfl) (by kernel_rfl) (by exact fun _ _ _ h => h) (Or.inl ⟨by rfl, by intro w hSw; (try dsimp only at hSw); first | (go_simp; done) | (go_simp; with_reducible rfl)⟩) (by assumption) ?_
            try simp only [Act.put, qsA, qsB, qsC]
            refine wpAnyH_take (i := 1) (by simp only [qgA, qgB, qgC]; rfl) (by kernel_rfl) (by kernel_rfl) (by kernel_rfl) (by exact fun _ _ _ h => h) (Or.inl ⟨by rfl, by intro w hSw; (try dsimp only at hSw); first | (go_simp; done) | (go_simp; with_reducible rfl)⟩) (by assumption) ?_
            try simp only [Act.put, qsA, qsB, qsC]
            refine wpAnyH_take (i := 2) (by simp only [qgA, qgB, qgC]; rfl) (by kernel_rfl) (by kernel_rfl) (by kernel_rfl) (by exact fun _ _ _ h => h) (Or.inl ⟨by rfl, by intro w hSw; (try dsimp only at hSw); first | (go_simp; done) | (go_simp; with_reducible rfl)⟩) (by assumption) ?_
            try simp only [Act.put, qsA, qsB, qsC]
            refine wpAnyH_take (i := 3) (by simp only [qgA, qgB, qgC]; rfl) (by kernel_rfl) (by kernel_rfl) (by kernel_rfl) (by exact fun _ _ _ h => h) (Or.inl ⟨by rfl, by intro w hSw; (try dsimp only at hSw); first | (go_simp; done) | (go_simp; with_reducible rfl)⟩) (by assumption) ?_
            try simp only [Act.put, qsA, qsB, qsC]
            refine wpAnyH_take (i := 4) (by simp only [qgA, qgB, qgC]; rfl) (by kernel_rfl) (by kernel_rfl) (by kernel_rfl) (by exact fun _ _ _ h => h) (Or.inl ⟨by rfl, by intro w hSw; (try dsimp only at hSw); first | (go_simp; done) | (go_simp; with_reducible rfl)⟩) (by assumption) ?_
            try simp only [Act.put, qsA, qsB, qsC]
            refine wpAnyH_take (i := 5) (by simp only [qgA, qgB, qgC]; rfl) (by kernel_rfl) (by kernel_rfl) (by kernel_rfl) (by exact fun _ _ _ h => h) (Or.inl ⟨by rfl, by intro w hSw; (try dsimp only at hSw); first | (go_simp; done) | (go_simp; with_reducible rfl)⟩) (by assumption) ?_
            try simp only [Act.put, qsA, qsB, qsC]
            refine wpAnyH_take (i := 6) (by simp only [qgA, qgB, qgC]; rfl) (by kernel_rfl) (by kernel_rfl) (by kernel_rfl) (by exact fun _ _ _ h => h) (Or.inl ⟨by rfl, by intro w hSw; (try dsimp only at hSw); first | (go_simp; done) | (go_simp; with_reducible rfl)⟩) (by assumption) ?_
            try simp only [Act.put, qsA, qsB, qsC]
            refine wpAnyH_take (i := 7) (by simp only [qgA, qgB, qgC]; rfl) (by kernel_rfl) (by kernel_rfl) (by kernel_rfl) (by exact fun _ _ _ h => h) (Or.inl ⟨by rfl, by intro w hSw; (try dsimp only at hSw); first | (go_simp; done) | (go_simp; with_reducible rfl)⟩) (by assumption) ?_
            try simp only [Act.put, qsA, qsB, qsC]
            refine wpAnyH_take (i := 8) (by simp only [qgA, qgB, qgC]; rfl) (by kernel_rfl) (by kernel_rfl) (by kernel_rfl) (by exact fun _ _ _ h => h) (Or.inl ⟨by rfl, by intro w hSw; (try dsimp only at hSw); first | (go_simp; done) | (go_simp; with_reducible rfl)⟩) (by assumption) ?_
            try simp only [Act.put, qsA, qsB, qsC]
            refine wpAnyH_take (i := 9) (by simp only [qgA, qgB, qgC]; rfl) (by kernel_rfl) (by kernel_rfl) (by kernel_rfl) (by exact fun _ _ _ h => h) (Or.inl ⟨by rfl, by intro w hSw; (try dsimp only at hSw); first | (go_simp; done) | (go_simp; with_reducible rfl)⟩) (by assumption) ?_
            try simp only [Act.put, qsA, qsB, qsC]
            refine wpAnyH_take (i := 10) (by simp only [qgA, qgB, qgC]; rfl) (by kernel_rfl) (by kernel_rfl) (by kernel_rfl) (by exact fun _ _ _ h => h) (Or.inl ⟨by rfl, by intro w hSw; (try dsimp only at hSw); first | (go_simp; done) | (go_simp; with_reducible rfl)⟩) (by assumption) ?_
            try simp only [Act.put, qsA, qsB, qsC]
            refine wpAnyH_take (i := 11) (by simp only [qgA, qgB, qgC]; rfl) (by kernel_rfl) (by kernel_rfl) (by kernel_rfl) (by exact fun _ _ _ h => h) (Or.inl ⟨by rfl, by intro w hSw; (try dsimp only at hSw); first | (go_simp; done) | (go_simp; with_reducible rfl)⟩) (by assumption) ?_
            try simp only [Act.put, qsA, qsB, qsC]
            refine wpAnyH_take (i := 12) (by simp only [qgA, qgB, qgC]; rfl) (by kernel_rfl) (by kernel_rfl) (by kernel_rfl) (by exact fun _ _ _ h => h) (Or.inl ⟨by rfl, by intro w hSw; (try dsimp only at hSw); first | (go_simp; done) | (go_simp; with_reducible rfl)⟩) (by assumption) ?_
            try simp only [Act.put, qsA, qsB, qsC]
            refine wpAnyH_take (i := 13) (by simp only [qgA, qgB, qgC]; rfl) (by kernel_rfl) (by kernel_rfl) (by kernel_rfl) (by exact fun _ _ _ h => h) (Or.inl ⟨by rfl, by intro w hSw; (try dsimp only at hSw); first | (go_simp; done) | (go_simp; with_reducible rfl)⟩) (by assumption) ?_
            try simp only [Act.put, qsA, qsB, qsC]
            refine wpAnyH_take (i := 14) (by simp only [qgA, qgB, qgC]; rfl) (by kernel_rfl) (by kernel_rfl) (by kernel_rfl) (by exact fun _ _ _ h => h) (Or.inl ⟨by rfl, by intro w hSw; (try dsimp only at hSw); first | (go_simp; done) | (go_simp; with_reducible rfl)⟩) (by assumption) ?_
            try simp only [Act.put, qsA, qsB, qsC]
            refine wpAnyH_take (i := 15) (by simp only [qgA, qgB, qgC]; rfl) (by kernel_rfl) (by kernel_rfl) (by kernel_rfl) (by exact fun _ _ _ h => h) (Or.inl ⟨by rfl, by intro w hSw; (try dsimp only at hSw); first | (go_simp; done) | (go_simp; with_reducible rfl)⟩) (by assumption) ?_
            try simp only [Act.put, qsA, qsB, qsC]
            refine wpAnyH_take (i := 16) (by simp only [qgA, qgB, qgC]; rfl) (by kernel_rfl) (by kernel_rfl) (by kernel_rfl) (by exact fun _ _ _ h => h) (Or.inl ⟨by rfl, by intro w hSw; (try dsimp only at hSw); first | (go_simp; done) | (go_simp; with_reducible rfl)⟩) (by assumption) ?_
            try simp only [Act.put, qsA, qsB, qsC]
            refine wpAnyH_take (i := 17) (by simp only [qgA, qgB, qgC]; rfl) (by kernel_rfl) (by kernel_rfl) (by kernel_rfl) (by exact fun _ _ _ h => h) (Or.inl ⟨by rfl, by intro w hSw; (try dsimp only at hSw); first | (go_simp; done) | (go_simp; with_reducible rfl)⟩) (by assumption) ?_
            try simp only [Act.put, qsA, qsB, qsC]
            refine wpAnyH_take (i := 18) (by simp only [qgA, qgB, qgC]; rfl) (by kernel_rfl) (by kernel_rfl) (by kernel_rfl) (by exact fun _ _ _ h => h) (Or.inl ⟨by rfl, by intro w hSw; (try dsimp only at hSw); first | (go_simp; done) | (go_simp; with_reducible rfl)⟩) (by assumption) ?_
            try simp only [Act.put, qsA, qsB, qsC]
            refine wpAnyH_take (i := 19) (by simp only [qgA, qgB, qgC]; rfl) (by kernel_rfl) (by kernel_rfl) (by kernel_rfl) (by exact fun _ _ _ h => h) (Or.inl ⟨by rfl, by intro w hSw; (try dsimp only at hSw); first | (go_simp; done) | (go_simp; with_reducible rfl)⟩) (by assumption) ?_
            try simp only [Act.put, qsA, qsB, qsC]
            refine wpAnyH_take (i := 20) (by simp only [qgA, qgB, qgC]; rfl) (by kernel_rfl) (by kernel_rfl) (by kernel_rfl) (by exact fun _ _ _ h => h) (Or.inl ⟨by rfl, by intro w hSw; (try dsimp only at hSw); first | (go_simp; done) | (go_simp; with_reducible rfl)⟩) (by assumption) ?_
            try simp only [Act.put, qsA, qsB, qsC]
            refine wpAnyH_take (i := 21) (by simp only [qgA, qgB, qgC]; rfl) (by kernel_rfl) (by kernel_rfl) (by kernel_rfl) (by exact fun _ _ _ h => h) (Or.inl ⟨by rfl, by intro w hSw; (try dsimp only at hSw); first | (go_simp; done) | (go_simp; with_reducible rfl)⟩) (by assumption) ?_
            try simp only [Act.put, qsA, qsB, qsC]
            refine wpAnyH_take (i := 22) (by simp only [qgA, qgB, qgC]; rfl) (by kernel_rfl) (by kernel_rfl) (by kernel_rfl) (by exact fun _ _ _ h => h) (Or.inl ⟨by rfl, by intro w hSw; (try dsimp only at hSw); first | (go_simp; done) | (go_simp; with_reducible rfl)⟩) (by assumption) ?_
            try simp only [Act.put, qsA, qsB, qsC]
            refine wpAnyH_take (i := 23) (by simp only [qgA, qgB, qgC]; rfl) (by kernel_rfl) (by kernel_rfl) (by kernel_rfl) (by exact fun _ _ _ h => h) (Or.inl ⟨by rfl, by intro w hSw; (try dsimp only at hSw); first | (go_simp; done) | (go_simp; with_reducible rfl)⟩) (by assumption) ?_
            try simp only [Act.put, qsA, qsB, qsC]
            refine wpAnyH_take (i := 24) (by simp only [qgA, qgB, qgC]; rfl) (by kernel_rfl) (by kernel_rfl) (by kernel_rfl) (by exact fun _ _ _ h => h) (Or.inl ⟨by rfl, by intro w hSw; (try dsimp only at hSw); first | (go_simp; done) | (go_simp; with_reducible rfl)⟩) (by assumption) ?_
            try simp only [Act.put, qsA, qsB, qsC]
            refine wpAnyH_done (by kernel_rfl) ?_ _
            go_wp2_with fail
            go_ret
            refine ⟨((HK2.out.trans0 HR4.out).trans0 (Keeps.refl [] w4).drew.drew.kv0).mono (by simp), ?_⟩
            rw [HVF.out, if_neg (fun h => HZ1.out h.1), if_pos ⟨HE1.out, HE2.out⟩]
            exact ⟨rfl, H4.out.kv (Keeps.refl [] w4).drew.drew.kv0⟩
          · have hjunk := True.intro
            have HZ1 := Lib.hid hz1
            have g1 : decide ((tu : Int) = (0 : Int)) = false := by simp; omega
            have g2 : ((tu : Int) == (0 : Int)) = false := by simp; omega
            clear hz1
            have HE1 := Lib.hid he1
            clear he1
            have HE2 := Lib.hid he2
            clear he2
            refine wp_region_held_drew (S := (fun W => W.cell? ⟨tbx, 0, none⟩ = some (.map (some tm)) ∧ W.cell? ⟨fbx, 0, none⟩ = some (.map (some fm)) ∧ W.cell? ⟨b1, 0, none⟩ = some (.int .i64 n) ∧ W.cell? ⟨b2, 0, none⟩ = some (.int .i64 n2) ∧ (Instr.lookup 225 (.map (some tm)) (.int .i64 n) false).run Tryz.prog W = .ok (.int .i64 tu) W ∧ (Instr.lookup 225 (.map (some fm)) (.int .i64 n2) false).run Tryz.prog W = .ok (.int .i64 fu) W)) (by kernel_rfl) ?_ (fun hHeld => ?_)
            · exact ⟨t0, f0, c1, c2, l1, l2⟩
            refine wpAnyH_take (i := 0) (by simp only [qgA, qgC]; rfl) (by kernel_rfl) (by kernel_rfl) (by kernel_rfl) (by exact fun _ _ _ h => h) (Or.inl ⟨by rfl, by intro w hSw; (try dsimp only at hSw); first | (go_simp; done) | (go_simp; with_reducible rfl)⟩) (by assumption) ?_
            try simp only [Act.put, qsA, qsB, qsC]
            refine wpAnyH_take (i := 1) (by simp only [qgA, qgB, qgC]; rfl) (by kernel_rfl) (by kernel_rfl) (by kernel_rfl) (by exact fun _ _ _ h => h) (Or.inl ⟨by rfl, by intro w hSw; (try dsimp only at hSw); first | (go_simp; done) | (go_simp; with_reducible rfl)⟩) (by assumption) ?_
            try simp only [Act.put, qsA, qsB, qsC]
            refine wpAnyH_take (i := 2) (by simp only [qgA, qgB, qgC]; rfl) (by kernel_rfl) (by kernel_rfl) (by kernel_rfl) (by exact fun _ _ _ h => h) (Or.inl ⟨by rfl, by intro w hSw; (try dsimp only at hSw); first | (go_simp; done) | (go_simp; with_reducible rfl)⟩) (by assumption) ?_
            try simp only [Act.put, qsA, qsB, qsC]
            refine wpAnyH_take (i := 3) (by simp only [qgA, qgB, qgC]; rfl) (by kernel_rfl) (by kernel_rfl) (by kernel_rfl) (by exact fun _ _ _ h => h) (Or.inl ⟨by rfl, by intro w hSw; (try dsimp only at hSw); first | (go_simp; done) | (go_simp; with_reducible rfl)⟩) (by assumption) ?_
            try simp only [Act.put, qsA, qsB, qsC]
            refine wpAnyH_take (i := 4) (by simp only [qgA, qgB, qgC]; rfl) (by kernel_rfl) (by kernel_rfl) (by kernel_rfl) (by exact fun _ _ _ h => h) (Or.inl ⟨by rfl, by intro w hSw; (try dsimp only at hSw); first | (go_simp; done) | (go_simp; with_reducible rfl)⟩) (by assumption) ?_
            try simp only [Act.put, qsA, qsB, qsC]
            refine wpAnyH_take (i := 5) (by simp only [qgA, qgB, qgC]; rfl) (by kernel_rfl) (by kernel_rfl) (by kernel_rfl) (by exact fun _ _ _ h => h) (Or.inl ⟨by rfl, by intro w hSw; (try dsimp only at hSw); first | (go_simp; done) | (go_simp; with_reducible rfl)⟩) (by assumption) ?_
            try simp only [Act.put, qsA, qsB, qsC]
            refine wpAnyH_take (i := 6) (by simp only [qgA, qgB, qgC]; rfl) (by kernel_rfl) (by kernel_rfl) (by kernel_rfl) (by exact fun _ _ _ h => h) (Or.inl ⟨by rfl, by intro w hSw; (try dsimp only at hSw); first | (go_simp; done) | (go_simp; with_reducible rfl)⟩) (by assumption) ?_
            try simp only [Act.put, qsA, qsB, qsC]
            refine wpAnyH_take (i := 7) (by simp only [qgA, qgB, qgC]; rfl) (by kernel_rfl) (by kernel_rfl) (by kernel_rfl) (by exact fun _ _ _ h => h) (Or.inl ⟨by rfl, by intro w hSw; (try dsimp only at hSw); first | (go_simp; done) | (go_simp; with_reducible rfl)⟩) (by assumption) ?_
            try simp only [Act.put, qsA, qsB, qsC]
            refine wpAnyH_take (i := 8) (v := undef) (by simp only [qgA, qgB, qgC]; rfl) (by kernel_rfl) (by kernel_rfl) (by kernel_rfl) (by exact fun _ _ _ h => h) (Or.inr ⟨by rfl, rfl⟩) (by assumption) ?_
            try simp only [Act.put, qsA, qsB, qsC]
            refine wpAnyH_take (i := 9) (v := undef) (by simp only [qgA, qgB, qgC]; rfl) (by kernel_rfl) (by kernel_rfl) (by kernel_rfl) (by exact fun _ _ _ h => h) (Or.inr ⟨by rfl, rfl⟩) (by assumption) ?_
            try simp only [Act.put, qsA, qsB, qsC]
            refine wpAnyH_take (i := 10) (v := undef) (by simp only [qgA, qgB, qgC]; rfl) (by kernel_rfl) (by kernel_rfl) (by kernel_rfl) (by exact fun _ _ _ h => h) (Or.inr ⟨by rfl, rfl⟩) (by assumption) ?_
            try simp only [Act.put, qsA, qsB, qsC]
            refine wpAnyH_take (i := 11) (v := undef) (by simp only [qgA, qgB, qgC]; rfl) (by kernel_rfl) (by kernel_rfl) (by kernel_rfl) (by exact fun _ _ _ h => h) (Or.inr ⟨by rfl, rfl⟩) (by assumption) ?_
            try simp only [Act.put, qsA, qsB, qsC]
            refine wpAnyH_take (i := 12) (v := undef) (by simp only [qgA, qgB, qgC]; rfl) (by kernel_rfl) (by kernel_rfl) (by kernel_rfl) (by exact fun _ _ _ h => h) (Or.inr ⟨by rfl, rfl⟩) (by assumption) ?_
            try simp only [Act.put, qsA, qsB, qsC]
            refine wpAnyH_take (i := 13) (v := undef) (by simp only [qgA, qgB, qgC]; rfl) (by kernel_rfl) (by kernel_rfl) (by kernel_rfl) (by exact fun _ _ _ h => h) (Or.inr ⟨by rfl, rfl⟩) (by assumption) ?_
            try simp only [Act.put, qsA, qsB, qsC]
            refine wpAnyH_take (i := 14) (v := undef) (by simp only [qgA, qgB, qgC]; rfl) (by kernel_rfl) (by kernel_rfl) (by kernel_rfl) (by exact fun _ _ _ h => h) (Or.inr ⟨by rfl, rfl⟩) (by assumption) ?_
            try simp only [Act.put, qsA, qsB, qsC]
            refine wpAnyH_take (i := 15) (by simp only [qgA, qgB, qgC]; rfl) (by kernel_rfl) (by kernel_rfl) (by kernel_rfl) (by exact fun _ _ _ h => h) (Or.inl ⟨by rfl, by intro w hSw; (try dsimp only at hSw); first | (go_simp; done) | (go_simp; with_reducible rfl)⟩) (by assumption) ?_
            try simp only [Act.put, qsA, qsB, qsC]
            refine wpAnyH_done (by kernel_rfl) ?_ _
            go_wp2_with fail
            clear g1 g2
            have he1 := HE1.out
            have g1 : decide ((tu : Int) = (n2 : Int)) = true := by simp; omega
            have g2 : ((tu : Int) == (n2 : Int)) = true := by simp; omega
            clear he1
            have he2 := HE2.out
            have h1 : decide ((fu : Int) = (n : Int)) = false := by simp; omega
            have h2 : ((fu : Int) == (n : Int)) = false := by simp; omega
            clear he2
            refine wp_region_held_drew (S := (fun W => W.cell? ⟨tbx, 0, none⟩ = some (.map (some tm)) ∧ W.cell? ⟨fbx, 0, none⟩ = some (.map (some fm)) ∧ W.cell? ⟨b1, 0, none⟩ = some (.int .i64 n) ∧ W.cell? ⟨b2, 0, none⟩ = some (.int .i64 n2) ∧ (Instr.lookup 225 (.map (some tm)) (.int .i64 n) false).run Tryz.prog W = .ok (.int .i64 tu) W ∧ (Instr.lookup 225 (.map (some fm)) (.int .i64 n2) false).run Tryz.prog W = .ok (.int .i64 fu) W)) (by kernel_rfl) ?_ (fun hHeld => ?_)
            · exact ⟨t0, f0, c1, c2, l3, l4⟩
            refine wpAnyH_take (i := 0) (by simp only [qgA, qgC]; rfl) (by kernel_rfl) (by kernel_rfl) (by kernel_rfl) (by exact fun _ _ _ h => h) (Or.inl ⟨by rfl, by intro w hSw; (try dsimp only at hSw); first | (go_simp; done) | (go_simp; with_reducible rfl)⟩) (by assumption) ?_
            try simp only [Act.put, qsA, qsB, qsC]
            refine wpAnyH_take (i := 1) (by simp only [qgA, qgB, qgC]; rfl) (by kernel_rfl) (by kernel_rfl) (by kernel_rfl) (by exact fun _ _ _ h => h) (Or.inl ⟨by rfl, by intro w hSw; (try dsimp only at hSw); first | (go_simp; done) | (go_simp; with_reducible rfl)⟩) (by assumption) ?_
            try simp only [Act.put, qsA, qsB, qsC]
            refine wpAnyH_take (i := 2) (by simp only [qgA, qgB, qgC]; rfl) (by kernel_rfl) (by kernel_rfl) (by kernel_rfl) (by exact fun _ _ _ h => h) (Or.inl ⟨by rfl, by intro w hSw; (try dsimp only at hSw); first | (go_simp; done) | (go_simp; with_reducible rfl)⟩) (by assumption) ?_
            try simp only [Act.put, qsA, qsB, qsC]
            refine wpAnyH_take (i := 3) (by simp only [qgA, qgB, qgC]; rfl) (by kernel_rfl) (by kernel_rfl) (by kernel_rfl) (by exact fun _ _ _ h => h) (Or.inl ⟨by rfl, by intro w hSw; (try dsimp only at hSw); first | (go_simp; done) | (go_simp; with_reducible rfl)⟩) (by assumption) ?_
            try simp only [Act.put, qsA, qsB, qsC]
            refine wpAnyH_take (i := 4) (by simp only [qgA, qgB, qgC]; rfl) (by kernel_rfl) (by kernel_rfl) (by kernel_rfl) (by exact fun _ _ _ h => h) (Or.inl ⟨by rfl, by intro w hSw; (try dsimp only at hSw); first | (go_simp; done) | (go_simp; with_reducible rfl)⟩) (by assumption) ?_
            try simp only [Act.put, qsA, qsB, qsC]
            refine wpAnyH_take (i := 5) (by simp only [qgA, qgB, qgC]; rfl) (by kernel_rfl) (by kernel_rfl) (by kernel_rfl) (by exact fun _ _ _ h => h) (Or.inl ⟨by rfl, by intro w hSw; (try dsimp only at hSw); first | (go_simp; done) | (go_simp; with_reducible rfl)⟩) (by assumption) ?_
            try simp only [Act.put, qsA, qsB, qsC]
            refine wpAnyH_take (i := 6) (by simp only [qgA, qgB, qgC]; rfl) (by kernel_rfl) (by kernel_rfl) (by kernel_rfl) (by exact fun _ _ _ h => h) (Or.inl ⟨by rfl, by intro w hSw; (try dsimp only at hSw); first | (go_simp; done) | (go_simp; with_reducible rfl)⟩) (by assumption) ?_
            try simp only [Act.put, qsA, qsB, qsC]
            refine wpAnyH_take (i := 7) (by simp only [qgA, qgB, qgC]; rfl) (by kernel_rfl) (by kernel_rfl) (by kernel_rfl) (by exact fun _ _ _ h => h) (Or.inl ⟨by rfl, by intro w hSw; (try dsimp only at hSw); first | (go_simp; done) | (go_simp; with_reducible rfl)⟩) (by assumption) ?_
            try simp only [Act.put, qsA, qsB, qsC]
            refine wpAnyH_take (i := 8) (by simp only [qgA, qgB, qgC]; rfl) (by kernel_rfl) (by kernel_rfl) (by kernel_rfl) (by exact fun _ _ _ h => h) (Or.inl ⟨by rfl, by intro w hSw; (try dsimp only at hSw); first | (go_simp; done) | (go_simp; with_reducible rfl)⟩) (by assumption) ?_
            try simp only [Act.put, qsA, qsB, qsC]
            refine wpAnyH_take (i := 9) (by simp only [qgA, qgB, qgC]; rfl) (by kernel_rfl) (by kernel_rfl) (by kernel_rfl) (by exact fun _ _ _ h => h) (Or.inl ⟨by rfl, by intro w hSw; (try dsimp only at hSw); first | (go_simp; done) | (go_simp; with_reducible rfl)⟩) (by assumption) ?_
            try simp only [Act.put, qsA, qsB, qsC]
            refine wpAnyH_take (i := 10) (by simp only [qgA, qgB, qgC]; rfl) (by kernel_rfl) (by kernel_rfl) (by kernel_rfl) (by exact fun _ _ _ h => h) (Or.inl ⟨by rfl, by intro w hSw; (try dsimp only at hSw); first | (go_simp; done) | (go_simp; with_reducible rfl)⟩) (by assumption) ?_
            try simp only [Act.put, qsA, qsB, qsC]
            refine wpAnyH_take (i := 11) (by simp only [qgA, qgB, qgC]; rfl) (by kernel_rfl) (by kernel_rfl) (by kernel_rfl) (by exact fun _ _ _ h => h) (Or.inl ⟨by rfl, by intro w hSw; (try dsimp only at hSw); first | (go_simp; done) | (go_simp; with_reducible rfl)⟩) (by assumption) ?_
            try simp only [Act.put, qsA, qsB, qsC]
            refine wpAnyH_take (i := 12) (by simp only [qgA, qgB, qgC]; rfl) (by kernel_rfl) (by kernel_rfl) (by kernel_rfl) (by exact fun _ _ _ h => h) (Or.inl ⟨by rfl, by intro w hSw; (try dsimp only at hSw); first | (go_simp; done) | (go_simp; with_reducible rfl)⟩) (by assumption) ?_
            try simp only [Act.put, qsA, qsB, qsC]
            refine wpAnyH_take (i := 13) (by simp only [qgA, qgB, qgC]; rfl) (by kernel_rfl) (by kernel_rfl) (by kernel_rfl) (by exact fun _ _ _ h => h) (Or.inl ⟨by rfl, by intro w hSw; (try dsimp only at hSw); first | (go_simp; done) | (go_simp; with_reducible rfl)⟩) (by assumption) ?_
            try simp only [Act.put, qsA, qsB, qsC]
            refine wpAnyH_take (i := 14) (by simp only [qgA, qgB, qgC]; rfl) (by kernel_rfl) (by kernel_rfl) (by kernel_rfl) (by exact fun _ _ _ h => h) (Or.inl ⟨by rfl, by intro w hSw; (try dsimp only at hSw); first | (go_simp; done) | (go_simp; with_reducible rfl)⟩) (by assumption) ?_
            try simp only [Act.put, qsA, qsB, qsC]
            refine wpAnyH_take (i := 15) (by simp only [qgA, qgB, qgC]; rfl) (by kernel_rfl) (by kernel_rfl) (by kernel_rfl) (by exact fun _ _ _ h => h) (Or.inl ⟨by rfl, by intro w hSw; (try dsimp only at hSw); first | (go_simp; done) | (go_simp; with_reducible rfl)⟩) (by assumption) ?_
            try simp only [Act.put, qsA, qsB, qsC]
            refine wpAnyH_take (i := 16) (by simp only [qgA, qgB, qgC]; rfl) (by kernel_rfl) (by kernel_rfl) (by kernel_rfl) (by exact fun _ _ _ h => h) (Or.inl ⟨by rfl, by intro w hSw; (try dsimp only at hSw); first | (go_simp; done) | (go_simp; with_reducible rfl)⟩) (by assumption) ?_
            try simp only [Act.put, qsA, qsB, qsC]
            refine wpAnyH_take (i := 17) (by simp only [qgA, qgB, qgC]; rfl) (by kernel_rfl) (by kernel_rfl) (by kernel_rfl) (by exact fun _ _ _ h => h) (Or.inl ⟨by rfl, by intro w hSw; (try dsimp only at hSw); first | (go_simp; done) | (go_simp; with_reducible rfl)⟩) (by assumption) ?_
            try simp only [Act.put, qsA, qsB, qsC]
            refine wpAnyH_take (i := 18) (by simp only [qgA, qgB, qgC]; rfl) (by kernel_rfl) (by kernel_rfl) (by kernel_rfl) (by exact fun _ _ _ h => h) (Or.inl ⟨by rfl, by intro w hSw; (try dsimp only at hSw); first | (go_simp; done) | (go_simp; with_reducible rfl)⟩) (by assumption) ?_
            try simp only [Act.put, qsA, qsB, qsC]
            refine wpAnyH_take (i := 19) (by simp only [qgA, qgB, qgC]; rfl) (by kernel_rfl) (by kernel_rfl) (by kernel_rfl) (by exact fun _ _ _ h => h) (Or.inl ⟨by rfl, by intro w hSw; (try dsimp only at hSw); first | (go_simp; done) | (go_simp; with_reducible rfl)⟩) (by assumption) ?_
            try simp only [Act.put, qsA, qsB, qsC]
            refine wpAnyH_take (i := 20) (by simp only [qgA, qgB, qgC]; rfl) (by kernel_rfl) (by kernel_rfl) (by kernel_rfl) (by exact fun _ _ _ h => h) (Or.inl ⟨by rfl, by intro w hSw; (try dsimp only at hSw); first | (go_simp; done) | (go_simp; with_reducible rfl)⟩) (by assumption) ?_
            try simp only [Act.put, qsA, qsB, qsC]
            refine wpAnyH_take (i := 21) (by simp only [qgA, qgB, qgC]; rfl) (by kernel_rfl) (by kernel_rfl) (by kernel_rfl) (by exact fun _ _ _ h => h) (Or.inl ⟨by rfl, by intro w hSw; (try dsimp only at hSw); first | (go_simp; done) | (go_simp; with_reducible rfl)⟩) (by assumption) ?_
            try simp only [Act.put, qsA, qsB, qsC]
            refine wpAnyH_take (i := 22) (by simp only [qgA, qgB, qgC]; rfl) (by kernel_rfl) (by kernel_rfl) (by kernel_rfl) (by exact fun _ _ _ h => h) (Or.inl ⟨by rfl, by intro w hSw; (try dsimp only at hSw); first | (go_simp; done) | (go_simp; with_reducible rfl)⟩) (by assumption) ?_
            try simp only [Act.put, qsA, qsB, qsC]
            refine wpAnyH_take (i := 23) (by simp only [qgA, qgB, qgC]; rfl) (by kernel_rfl) (by kernel_rfl) (by kernel_rfl) (by exact fun _ _ _ h => h) (Or.inl ⟨by rfl, by intro w hSw; (try dsimp only at hSw); first | (go_simp; done) | (go_simp; with_reducible rfl)⟩) (by assumption) ?_
            try simp only [Act.put, qsA, qsB, qsC]
            refine wpAnyH_take (i := 24) (by simp only [qgA, qgB, qgC]; rfl) (by kernel_rfl) (by kernel_rfl) (by kernel_rfl) (by exact fun _ _ _ h => h) (Or.inl ⟨by rfl, by intro w hSw; (try dsimp only at hSw); first | (go_simp; done) | (go_simp; with_reducible rfl)⟩) (by assumption) ?_
            try simp only [Act.put, qsA, qsB, qsC]
            refine wpAnyH_done (by kernel_rfl) ?_ _
            go_wp2_with fail
            go_ret
            refine ⟨((HK2.out.trans0 HR4.out).trans0 (Keeps.refl [] w4).drew.drew.kv0).mono (by simp), ?_⟩
            rw [HVF.out, if_neg (fun h => HZ1.out h.1), if_neg (fun h => HE2.out h.2)]
            exact rfl
          · have hjunk := True.intro
            have HZ1 := Lib.hid hz1
            have g1 : decide ((tu : Int) = (0 : Int)) = false := by simp; omega
            have g2 : ((tu : Int) == (0 : Int)) = false := by simp; omega
            clear hz1
            have HE1 := Lib.hid he1
            clear he1
            refine wp_region_held_drew (S := (fun W => W.cell? ⟨tbx, 0, none⟩ = some (.map (some tm)) ∧ W.cell? ⟨fbx, 0, none⟩ = some (.map (some fm)) ∧ W.cell? ⟨b1, 0, none⟩ = some (.int .i64 n) ∧ W.cell? ⟨b2, 0, none⟩ = some (.int .i64 n2) ∧ (Instr.lookup 225 (.map (some tm)) (.int .i64 n) false).run Tryz.prog W = .ok (.int .i64 tu) W ∧ (Instr.lookup 225 (.map (some fm)) (.int .i64 n2) false).run Tryz.prog W = .ok (.int .i64 fu) W)) (by kernel_rfl) ?_ (fun hHeld => ?_)
            · exact ⟨t0, f0, c1, c2, l1, l2⟩
            refine wpAnyH_take (i := 0) (by simp only [qgA, qgC]; rfl) (by kernel_rfl) (by kernel_rfl) (by kernel_rfl) (by exact fun _ _ _ h => h) (Or.inl ⟨by rfl, by intro w hSw; (try dsimp only at hSw); first | (go_simp; done) | (go_simp; with_reducible rfl)⟩) (by assumption) ?_
            try simp only [Act.put, qsA, qsB, qsC]
            refine wpAnyH_take (i := 1) (by simp only [qgA, qgB, qgC]; rfl) (by kernel_rfl) (by kernel_rfl) (by kernel_rfl) (by exact fun _ _ _ h => h) (Or.inl ⟨by rfl, by intro w hSw; (try dsimp only at hSw); first | (go_simp; done) | (go_simp; with_reducible rfl)⟩) (by assumption) ?_
            try simp only [Act.put, qsA, qsB, qsC]
            refine wpAnyH_take (i := 2) (by simp only [qgA, qgB, qgC]; rfl) (by kernel_rfl) (by kernel_rfl) (by kernel_rfl) (by exact fun _ _ _ h => h) (Or.inl ⟨by rfl, by intro w hSw; (try dsimp only at hSw); first | (go_simp; done) | (go_simp; with_reducible rfl)⟩) (by assumption) ?_
            try simp only [Act.put, qsA, qsB, qsC]
            refine wpAnyH_take (i := 3) (by simp only [qgA, qgB, qgC]; rfl) (by kernel_rfl) (by kernel_rfl) (by kernel_rfl) (by exact fun _ _ _ h => h) (Or.inl ⟨by rfl, by intro w hSw; (try dsimp only at hSw); first | (go_simp; done) | (go_simp; with_reducible rfl)⟩) (by assumption) ?_
            try simp only [Act.put, qsA, qsB, qsC]
            refine wpAnyH_take (i := 4) (by simp only [qgA, qgB, qgC]; rfl) (by kernel_rfl) (by kernel_rfl) (by kernel_rfl) (by exact fun _ _ _ h => h) (Or.inl ⟨by rfl, by intro w hSw; (try dsimp only at hSw); first | (go_simp; done) | (go_simp; with_reducible rfl)⟩) (by assumption) ?_
            try simp only [Act.put, qsA, qsB, qsC]
            refine wpAnyH_take (i := 5) (by simp only [qgA, qgB, qgC]; rfl) (by kernel_rfl) (by kernel_rfl) (by kernel_rfl) (by exact fun _ _ _ h => h) (Or.inl ⟨by rfl, by intro w hSw; (try dsimp only at hSw); first | (go_simp; done) | (go_simp; with_reducible rfl)⟩) (by assumption) ?_
            try simp only [Act.put, qsA, qsB, qsC]
            refine wpAnyH_take (i := 6) (by simp only [qgA, qgB, qgC]; rfl) (by kernel_rfl) (by kernel_rfl) (by kernel_rfl) (by exact fun _ _ _ h => h) (Or.inl ⟨by rfl, by intro w hSw; (try dsimp only at hSw); first | (go_simp; done) | (go_simp; with_reducible rfl)⟩) (by assumption) ?_
            try simp only [Act.put, qsA, qsB, qsC]
            refine wpAnyH_take (i := 7) (by simp only [qgA, qgB, qgC]; rfl) (by kernel_rfl) (by kernel_rfl) (by kernel_rfl) (by exact fun _ _ _ h => h) (Or.inl ⟨by rfl, by intro w hSw; (try dsimp only at hSw); first | (go_simp; done) | (go_simp; with_reducible rfl)⟩) (by assumption) ?_
            try simp only [Act.put, qsA, qsB, qsC]
            refine wpAnyH_take (i := 8) (v := undef) (by simp only [qgA, qgB, qgC]; rfl) (by kernel_rfl) (by kernel_rfl) (by kernel_rfl) (by exact fun _ _ _ h => h) (Or.inr ⟨by rfl, rfl⟩) (by assumption) ?_
            try simp only [Act.put, qsA, qsB, qsC]
            refine wpAnyH_take (i := 9) (v := undef) (by simp only [qgA, qgB, qgC]; rfl) (by kernel_rfl) (by kernel_rfl) (by kernel_rfl) (by exact fun _ _ _ h => h) (Or.inr ⟨by rfl, rfl⟩) (by assumption) ?_
            try simp only [Act.put, qsA, qsB, qsC]
            refine wpAnyH_take (i := 10) (v := undef) (by simp only [qgA, qgB, qgC]; rfl) (by kernel_rfl) (by kernel_rfl) (by kernel_rfl) (by exact fun _ _ _ h => h) (Or.inr ⟨by rfl, rfl⟩) (by assumption) ?_
            try simp only [Act.put, qsA, qsB, qsC]
            refine wpAnyH_take (i := 11) (v := undef) (by simp only [qgA, qgB, qgC]; rfl) (by kernel_rfl) (by kernel_rfl) (by kernel_rfl) (by exact fun _ _ _ h => h) (Or.inr ⟨by rfl, rfl⟩) (by assumption) ?_
            try simp only [Act.put, qsA, qsB, qsC]
            refine wpAnyH_take (i := 12) (v := undef) (by simp only [qgA, qgB, qgC]; rfl) (by kernel_rfl) (by kernel_rfl) (by kernel_rfl) (by exact fun _ _ _ h => h) (Or.inr ⟨by rfl, rfl⟩) (by assumption) ?_
            try simp only [Act.put, qsA, qsB, qsC]
            refine wpAnyH_take (i := 13) (v := undef) (by simp only [qgA, qgB, qgC]; rfl) (by kernel_rfl) (by kernel_rfl) (by kernel_rfl) (by exact fun _ _ _ h => h) (Or.inr ⟨by rfl, rfl⟩) (by assumption) ?_
            try simp only [Act.put, qsA, qsB, qsC]
            refine wpAnyH_take (i := 14) (v := undef) (by simp only [qgA, qgB, qgC]; rfl) (by kernel_rfl) (by kernel_rfl) (by kernel_rfl) (by exact fun _ _ _ h => h) (Or.inr ⟨by rfl, rfl⟩) (by assumption) ?_
            try simp only [Act.put, qsA, qsB, qsC]
            refine wpAnyH_take (i := 15) (by simp only [qgA, qgB, qgC]; rfl) (by kernel_rfl) (by kernel_rfl) (by kernel_rfl) (by exact fun _ _ _ h => h) (Or.inl ⟨by rfl, by intro w hSw; (try dsimp only at hSw); first | (go_simp; done) | (go_simp; with_reducible rfl)⟩) (by assumption) ?_
            try simp only [Act.put, qsA, qsB, qsC]
            refine wpAnyH_done (by kernel_rfl) ?_ _
            go_wp2_with fail
            clear g1 g2
            have he1 := HE1.out
            have g1 : decide ((tu : Int) = (n2 : Int)) = false := by simp; omega
            have g2 : ((tu : Int) == (n2 : Int)) = false := by simp; omega
            clear he1
            refine wp_region_held_drew (S := (fun W => W.cell? ⟨tbx, 0, none⟩ = some (.map (some tm)) ∧ W.cell? ⟨fbx, 0, none⟩ = some (.map (some fm)) ∧ W.cell? ⟨b1, 0, none⟩ = some (.int .i64 n) ∧ W.cell? ⟨b2, 0, none⟩ = some (.int .i64 n2) ∧ (Instr.lookup 225 (.map (some tm)) (.int .i64 n) false).run Tryz.prog W = .ok (.int .i64 tu) W ∧ (Instr.lookup 225 (.map (some fm)) (.int .i64 n2) false).run Tryz.prog W = .ok (.int .i64 fu) W)) (by kernel_rfl) ?_ (fun hHeld => ?_)
            · exact ⟨t0, f0, c1, c2, l3, l4⟩
            refine wpAnyH_take (i := 0) (by simp only [qgA, qgC]; rfl) (by kernel_rfl) (by kernel_rfl) (by kernel_rfl) (by exact fun _ _ _ h => h) (Or.inl ⟨by rfl, by intro w hSw; (try dsimp only at hSw); first | (go_simp; done) | (go_simp; with_reducible rfl)⟩) (by assumption) ?_
            try simp only [Act.put, qsA, qsB, qsC]
            refine wpAnyH_take (i := 1) (by simp only [qgA, qgB, qgC]; rfl) (by kernel_rfl) (by kernel_rfl) (by kernel_rfl) (by exact fun _ _ _ h => h) (Or.inl ⟨by rfl, by intro w hSw; (try dsimp only at hSw); first | (go_simp; done) | (go_simp; with_reducible rfl)⟩) (by assumption) ?_
            try simp only [Act.put, qsA, qsB, qsC]
            refine wpAnyH_take (i := 2) (by simp only [qgA, qgB, qgC]; rfl) (by kernel_rfl) (by kernel_rfl) (by kernel_rfl) (by exact fun _ _ _ h => h) (Or.inl ⟨by rfl, by intro w hSw; (try dsimp only at hSw); first | (go_simp; done) | (go_simp; with_reducible rfl)⟩) (by assumption) ?_
            try simp only [Act.put, qsA, qsB, qsC]
            refine wpAnyH_take (i := 3) (by simp only [qgA, qgB, qgC]; rfl) (by kernel_rfl) (by kernel_rfl) (by kernel_rfl) (by exact fun _ _ _ h => h) (Or.inl ⟨by rfl, by intro w hSw; (try dsimp only at hSw); first | (go_simp; done) | (go_simp; with_reducible rfl)⟩) (by assumption) ?_
            try simp only [Act.put, qsA, qsB, qsC]
            refine wpAnyH_take (i := 4) (by simp only [qgA, qgB, qgC]; rfl) (by kernel_rfl) (by kernel_rfl) (by kernel_rfl) (by exact fun _ _ _ h => h) (Or.inl ⟨by rfl, by intro w hSw; (try dsimp only at hSw); first | (go_simp; done) | (go_simp; with_reducible rfl)⟩) (by assumption) ?_
            try simp only [Act.put, qsA, qsB, qsC]
            refine wpAnyH_take (i := 5) (by simp only [qgA, qgB, qgC]; rfl) (by kernel_rfl) (by kernel_rfl) (by kernel_rfl) (by exact fun _ _ _ h => h) (Or.inl ⟨by rfl, by intro w hSw; (try dsimp only at hSw); first | (go_simp; done) | (go_simp; with_reducible rfl)⟩) (by assumption) ?_
            try simp only [Act.put, qsA, qsB, qsC]
            refine wpAnyH_take (i := 6) (by simp only [qgA, qgB, qgC]; rfl) (by kernel_rfl) (by kernel_rfl) (by kernel_rfl) (by exact fun _ _ _ h => h) (Or.inl ⟨by rfl, by intro w hSw; (try dsimp only at hSw); first | (go_simp; done) | (go_simp; with_reducible rfl)⟩) (by assumption) ?_
            try simp only [Act.put, qsA, qsB, qsC]
            refine wpAnyH_take (i := 7) (by simp only [qgA, qgB, qgC]; rfl) (by kernel_rfl) (by kernel_rfl) (by kernel_rfl) (by exact fun _ _ _ h => h) (Or.inl ⟨by rfl, by intro w hSw; (try dsimp only at hSw); first | (go_simp; done) | (go_simp; with_reducible rfl)⟩) (by assumption) ?_
            try simp only [Act.put, qsA, qsB, qsC]
            refine wpAnyH_take (i := 8) (by simp only [qgA, qgB, qgC]; rfl) (by kernel_rfl) (by kernel_rfl) (by kernel_rfl) (by exact fun _ _ _ h => h) (Or.inl ⟨by rfl, by intro w hSw; (try dsimp only at hSw); first | (go_simp; done) | (go_simp; with_reducible rfl)⟩) (by assumption) ?_
            try simp only [Act.put, qsA, qsB, qsC]
            refine wpAnyH_take (i := 9) (by simp only [qgA, qgB, qgC]; rfl) (by kernel_rfl) (by kernel_rfl) (by kernel_rfl) (by exact fun _ _ _ h => h) (Or.inl ⟨by rfl, by intro w hSw; (try dsimp only at hSw); first | (go_simp; done) | (go_simp; with_reducible rfl)⟩) (by assumption) ?_
            try simp only [Act.put, qsA, qsB, qsC]
            refine wpAnyH_take (i := 10) (by simp only [qgA, qgB, qgC]; rfl) (by kernel_rfl) (by kernel_rfl) (by kernel_rfl) (by exact fun _ _ _ h => h) (Or.inl ⟨by rfl, by intro w hSw; (try dsimp only at hSw); first | (go_simp; done) | (go_simp; with_reducible rfl)⟩) (by assumption) ?_
            try simp only [Act.put, qsA, qsB, qsC]
            refine wpAnyH_take (i := 11) (by simp only [qgA, qgB, qgC]; rfl) (by kernel_rfl) (by kernel_rfl) (by kernel_rfl) (by exact fun _ _ _ h => h) (Or.inl ⟨by rfl, by intro w hSw; (try dsimp only at hSw); first | (go_simp; done) | (go_simp; with_reducible rfl)⟩) (by assumption) ?_
            try simp only [Act.put, qsA, qsB, qsC]
            refine wpAnyH_take (i := 12) (v := undef) (by simp only [qgA, qgB, qgC]; rfl) (by kernel_rfl) (by kernel_rfl) (by kernel_rfl) (by exact fun _ _ _ h => h) (Or.inr ⟨by rfl, rfl⟩) (by assumption) ?_
            try simp only [Act.put, qsA, qsB, qsC]
            refine wpAnyH_take (i := 13) (v := undef) (by simp only [qgA, qgB, qgC]; rfl) (by kernel_rfl) (by kernel_rfl) (by kernel_rfl) (by exact fun _ _ _ h => h) (Or.inr ⟨by rfl, rfl⟩) (by assumption) ?_
            try simp only [Act.put, qsA, qsB, qsC]
            refine wpAnyH_take (i := 14) (v := undef) (by simp only [qgA, qgB, qgC]; rfl) (by kernel_rfl) (by kernel_rfl) (by kernel_rfl) (by exact fun _ _ _ h => h) (Or.inr ⟨by rfl, rfl⟩) (by assumption) ?_
            try simp only [Act.put, qsA, qsB, qsC]
            refine wpAnyH_take (i := 15) (v := undef) (by simp only [qgA, qgB, qgC]; rfl) (by kernel_rfl) (by kernel_rfl) (by kernel_rfl) (by exact fun _ _ _ h => h) (Or.inr ⟨by rfl, rfl⟩) (by assumption) ?_
            try simp only [Act.put, qsA, qsB, qsC]
            refine wpAnyH_take (i := 16) (v := undef) (by simp only [qgA, qgB, qgC]; rfl) (by kernel_rfl) (by kernel_rfl) (by kernel_rfl) (by exact fun _ _ _ h => h) (Or.inr ⟨by rfl, rfl⟩) (by assumption) ?_
            try simp only [Act.put, qsA, qsB, qsC]
            refine wpAnyH_take (i := 17) (v := undef) (by simp only [qgA, qgB, qgC]; rfl) (by kernel_rfl) (by kernel_rfl) (by kernel_rfl) (by exact fun _ _ _ h => h) (Or.inr ⟨by rfl, rfl⟩) (by assumption) ?_
            try simp only [Act.put, qsA, qsB, qsC]
            refine wpAnyH_take (i := 18) (v := undef) (by simp only [qgA, qgB, qgC]; rfl) (by kernel_rfl) (by kernel_rfl) (by kernel_rfl) (by exact fun _ _ _ h => h) (Or.inr ⟨by rfl, rfl⟩) (by assumption) ?_
            try simp only [Act.put, qsA, qsB, qsC]
            refine wpAnyH_take (i := 19) (v := undef) (by simp only [qgA, qgB, qgC]; rfl) (by kernel_rfl) (by kernel_rfl) (by kernel_rfl) (by exact fun _ _ _ h => h) (Or.inr ⟨by rfl, rfl⟩) (by assumption) ?_
            try simp only [Act.put, qsA, qsB, qsC]
            refine wpAnyH_take (i := 20) (v := undef) (by simp only [qgA, qgB, qgC]; rfl) (by kernel_rfl) (by kernel_rfl) (by kernel_rfl) (by exact fun _ _ _ h => h) (Or.inr ⟨by rfl, rfl⟩) (by assumption) ?_
            try simp only [Act.put, qsA, qsB, qsC]
            refine wpAnyH_take (i := 21) (v := undef) (by simp only [qgA, qgB, qgC]; rfl) (by kernel_rfl) (by kernel_rfl) (by kernel_rfl) (by exact fun _ _ _ h => h) (Or.inr ⟨by rfl, rfl⟩) (by assumption) ?_
            try simp only [Act.put, qsA, qsB, qsC]
            refine wpAnyH_take (i := 22) (v := undef) (by simp only [qgA, qgB, qgC]; rfl) (by kernel_rfl) (by kernel_rfl) (by kernel_rfl) (by exact fun _ _ _ h => h) (Or.inr ⟨by rfl, rfl⟩) (by assumption) ?_
            try simp only [Act.put, qsA, qsB, qsC]
            refine wpAnyH_take (i := 23) (by simp only [qgA, qgB, qgC]; rfl) (by kernel_rfl) (by kernel_rfl) (by kernel_rfl) (by exact fun _ _ _ h => h) (Or.inl ⟨by rfl, by intro w hSw; (try dsimp only at hSw); first | (go_simp; done) | (go_simp; with_reducible rfl)⟩) (by assumption) ?_
            try simp only [Act.put, qsA, qsB, qsC]
            refine wpAnyH_take (i := 24) (by simp only [qgA, qgB, qgC]; rfl) (by kernel_rfl) (by kernel_rfl) (by kernel_rfl) (by exact fun _ _ _ h => h) (Or.inl ⟨by rfl, by intro w hSw; (try dsimp only at hSw); first | (go_simp; done) | (go_simp; with_reducible rfl)⟩) (by assumption) ?_
            try simp only [Act.put, qsA, qsB, qsC]
            refine wpAnyH_done (by kernel_rfl) ?_ _
            go_wp2_with fail
            go_ret
            refine ⟨((HK2.out.trans0 HR4.out).trans0 (Keeps.refl [] w4).drew.drew.kv0).mono (by simp), ?_⟩
            rw [HVF.out, if_neg (fun h => HZ1.out h.1), if_neg (fun h => HE1.out h.1)]
            exact rfl
      · have hd : decide (n2 ∈ lb) = false := by simpa using hnb
        rw [hd]
        clear hd
        go_wp2_with fail
        have HKD := Lib.hid (HK4.out.drew)
        have HS8 := Lib.hid (fun (W : World) (hW : Keeps [] w2 W) => (⟨hW.cellSome A0.out (by simp), hW.cellSome A1.out (by simp), hW.cellSome D0.out (by simp), hW.cellSome D1.out (by simp), cell_of_block (hW.some HB1.out (by simp)) 0, cell_of_block (hW.some HB2.out (by simp)) 0⟩ : (fun W => W.cell? ⟨sab, 0, none⟩ = some (.iface tt1 tp1) ∧ W.cell? ⟨sab, 1, none⟩ = some (.map mm1) ∧ W.cell? ⟨sbb, 0, none⟩ = some (.iface tt2 tp2) ∧ W.cell? ⟨sbb, 1, none⟩ = some (.map mm2) ∧ W.cell? ⟨b1, 0, none⟩ = some (.int .i64 n) ∧ W.cell? ⟨b2, 0, none⟩ = some (.int .i64 n2)) W))
        clear a0 a1 d0 d1
        refine wp_region_held_drew (S := (fun W => W.cell? ⟨sab, 0, none⟩ = some (.iface tt1 tp1) ∧ W.cell? ⟨sab, 1, none⟩ = some (.map mm1) ∧ W.cell? ⟨sbb, 0, none⟩ = some (.iface tt2 tp2) ∧ W.cell? ⟨sbb, 1, none⟩ = some (.map mm2) ∧ W.cell? ⟨b1, 0, none⟩ = some (.int .i64 n) ∧ W.cell? ⟨b2, 0, none⟩ = some (.int .i64 n2))) (by kernel_rfl) ?_ (fun hHeld => ?_)
        · exact HS8.out _ HKD.out
        refine wpAnyH_take (i := 0) (by simp only [qgA, qgC]; rfl) (by kernel_rfl) (by kernel_rfl) (by kernel_rfl) (by exact fun _ _ _ h => h) (Or.inl ⟨by rfl, by intro w hSw; (try dsimp only at hSw); first | (go_simp; done) | (go_simp; with_reducible rfl)⟩) (by assumption) ?_
        try simp only [Act.put, qsA, qsB, qsC]
        refine wpAnyH_take (i := 1) (by simp only [qgA, qgB, qgC]; rfl) (by kernel_rfl) (by kernel_rfl) (by kernel_rfl) (by exact fun _ _ _ h => h) (Or.inl ⟨by rfl, by intro w hSw; (try dsimp only at hSw); first | (go_simp; done) | (go_simp; with_reducible rfl)⟩) (by assumption) ?_
        try simp only [Act.put, qsA, qsB, qsC]
        refine wpAnyH_ready (rs := [2]) (by kernel_rfl) (by simp) ?_
        refine AllReadyH.cons rfl (fun K hK => ?_) AllReadyH.nil
        go_simp
        refine (HANY1.out _ HKD.out).mono ?_
        rintro e W5 ⟨rfl, hk5⟩
        have HK5 := Lib.hid (HKD.out.trans0 hk5)
        clear hk5
        have hd : decide (n ∈ la) = true := by simpa using hna
        rw [hd]
        clear hd
        go_wp2_with fail
        refine hK.out _ _ (HS8.out _ HK5.out) (fun hHeld2 => ?_)
        clear hK K hHeld
        try simp only [Act.put, qsA, qsB, qsC]
        refine wpAnyH_take (i := 3) (by simp only [qgA, qgB, qgC]; rfl) (by kernel_rfl) (by kernel_rfl) (by kernel_rfl) (by exact fun _ _ _ h => h) (Or.inl ⟨by rfl, by intro w hSw; (try dsimp only at hSw); first | (go_simp; done) | (go_simp; with_reducible rfl)⟩) (by assumption) ?_
        try simp only [Act.put, qsA, qsB, qsC]
        refine wpAnyH_take (i := 4) (by simp only [qgA, qgB, qgC]; rfl) (by kernel_rfl) (by kernel_rfl) (by kernel_rfl) (by exact fun _ _ _ h => h) (Or.inl ⟨by rfl, by intro w hSw; (try dsimp only at hSw); first | (go_simp; done) | (go_simp; with_reducible rfl)⟩) (by assumption) ?_
        try simp only [Act.put, qsA, qsB, qsC]
        refine wpAnyH_take (i := 5) (v := undef) (by simp only [qgA, qgB, qgC]; rfl) (by kernel_rfl) (by kernel_rfl) (by kernel_rfl) (by exact fun _ _ _ h => h) (Or.inr ⟨by rfl, rfl⟩) (by assumption) ?_
        try simp only [Act.put, qsA, qsB, qsC]
        refine wpAnyH_take (i := 6) (v := undef) (by simp only [qgA, qgB, qgC]; rfl) (by kernel_rfl) (by kernel_rfl) (by kernel_rfl) (by exact fun _ _ _ h => h) (Or.inr ⟨by rfl, rfl⟩) (by assumption) ?_
        try simp only [Act.put, qsA, qsB, qsC]
        refine wpAnyH_ready (rs := [7]) (by kernel_rfl) (by simp) ?_
        refine AllReadyH.cons rfl (fun K hK => ?_) AllReadyH.nil
        go_simp
        refine hK.out _ _ (HS8.out _ HK5.out) (fun hHeld3 => ?_)
        clear hK K hHeld2
        try simp only [Act.put, qsA, qsB, qsC]
        refine wpAnyH_take (i := 8) (v := undef) (by simp only [qgA, qgB, qgC]; rfl) (by kernel_rfl) (by kernel_rfl) (by kernel_rfl) (by exact fun _ _ _ h => h) (Or.inr ⟨by rfl, rfl⟩) (by assumption) ?_
        try simp only [Act.put, qsA, qsB, qsC]
        refine wpAnyH_take (i := 9) (by simp only [qgA, qgB, qgC]; rfl) (by kernel_rfl) (by kernel_rfl) (by kernel_rfl) (by exact fun _ _ _ h => h) (Or.inl ⟨by rfl, by intro w hSw; (try dsimp only at hSw); first | (go_simp; done) | (go_simp; with_reducible rfl)⟩) (by assumption) ?_
        try simp only [Act.put, qsA, qsB, qsC]
        refine wpAnyH_take (i := 10) (by simp only [qgA, qgB, qgC]; rfl) (by kernel_rfl) (by kernel_rfl) (by kernel_rfl) (by exact fun _ _ _ h => h) (Or.inl ⟨by rfl, by intro w hSw; (try dsimp only at hSw); first | (go_simp; done) | (go_simp; with_reducible rfl)⟩) (by assumption) ?_
        try simp only [Act.put, qsA, qsB, qsC]
        refine wpAnyH_take (i := 11) (v := undef) (by simp only [qgA, qgB, qgC]; rfl) (by kernel_rfl) (by kernel_rfl) (by kernel_rfl) (by exact fun _ _ _ h => h) (Or.inr ⟨by rfl, rfl⟩) (by assumption) ?_
        try simp only [Act.put, qsA, qsB, qsC]
        refine wpAnyH_take (i := 12) (v := undef) (by simp only [qgA, qgB, qgC]; rfl) (by kernel_rfl) (by kernel_rfl) (by kernel_rfl) (by exact fun _ _ _ h => h) (Or.inr ⟨by rfl, rfl⟩) (by assumption) ?_
        try simp only [Act.put, qsA, qsB, qsC]
        refine wpAnyH_take (i := 13) (v := undef) (by simp only [qgA, qgB, qgC]; rfl) (by kernel_rfl) (by kernel_rfl) (by kernel_rfl) (by exact fun _ _ _ h => h) (Or.inr ⟨by rfl, rfl⟩) (by assumption) ?_
        try simp only [Act.put, qsA, qsB, qsC]
        refine wpAnyH_take (i := 14) (v := undef) (by simp only [qgA, qgB, qgC]; rfl) (by kernel_rfl) (by kernel_rfl) (by kernel_rfl) (by exact fun _ _ _ h => h) (Or.inr ⟨by rfl, rfl⟩) (by assumption) ?_
        try simp only [Act.put, qsA, qsB, qsC]
        refine wpAnyH_take (i := 15) (v := undef) (by simp only [qgA, qgB, qgC]; rfl) (by kernel_rfl) (by kernel_rfl) (by kernel_rfl) (by exact fun _ _ _ h => h) (Or.inr ⟨by rfl, rfl⟩) (by assumption) ?_
        try simp only [Act.put, qsA, qsB, qsC]
        refine wpAnyH_take (i := 16) (v := undef) (by simp only [qgA, qgB, qgC]; rfl) (by kernel_rfl) (by kernel_rfl) (by kernel_rfl) (by exact fun _ _ _ h => h) (Or.inr ⟨by rfl, rfl⟩) (by assumption) ?_
        try simp only [Act.put, qsA, qsB, qsC]
        refine wpAnyH_take (i := 17) (v := undef) (by simp only [qgA, qgB, qgC]; rfl) (by kernel_rfl) (by kernel_rfl) (by kernel_rfl) (by exact fun _ _ _ h => h) (Or.inr ⟨by rfl, rfl⟩) (by assumption) ?_
        try simp only [Act.put, qsA, qsB, qsC]
        refine wpAnyH_take (i := 18) (v := undef) (by simp only [qgA, qgB, qgC]; rfl) (by kernel_rfl) (by kernel_rfl) (by kernel_rfl) (by exact fun _ _ _ h => h) (Or.inr ⟨by rfl, rfl⟩) (by assumption) ?_
        try simp only [Act.put, qsA, qsB, qsC]
        refine wpAnyH_take (i := 19) (v := undef) (by simp only [qgA, qgB, qgC]; rfl) (by kernel_rfl) (by kernel_rfl) (by kernel_rfl) (by exact fun _ _ _ h => h) (Or.inr ⟨by rfl, rfl⟩) (by assumption) ?_
        try simp only [Act.put, qsA, qsB, qsC]
        refine wpAnyH_take (i := 20) (by simp only [qgA, qgB, qgC]; rfl) (by kernel_rfl) (by kernel_rfl) (by kernel_rfl) (by exact fun _ _ _ h => h) (Or.inl ⟨by rfl, by intro w hSw; (try dsimp only at hSw); first | (go_simp; done) | (go_simp; with_reducible rfl)⟩) (by assumption) ?_
        try simp only [Act.put, qsA, qsB, qsC]
        refine wpAnyH_take (i := 21) (by simp only [qgA, qgB, qgC]; rfl) (by kernel_rfl) (by kernel_rfl) (by kernel_rfl) (by exact fun _ _ _ h => h) (Or.inl ⟨by rfl, by intro w hSw; (try dsimp only at hSw); first | (go_simp; done) | (go_simp; with_reducible rfl)⟩) (by assumption) ?_
        try simp only [Act.put, qsA, qsB, qsC]
        refine wpAnyH_done (by kernel_rfl) ?_ _
        go_wp2_with fail
        go_ret
        refine ⟨(HK2.out.trans0 HK5.out.kv0).mono (by simp), ?_⟩
        rw [HVV.out, if_neg (fun h => hnb h.2), if_neg (fun h => h.1 hna)]
        exact rfl
    · have hd : decide (n ∈ la) = false := by simpa using hna
      rw [hd]
      clear hd
      go_wp2_with fail
      by_cases hnb : n2 ∈ lb
      · have hjunk := True.intro
        have HKD := Lib.hid (HK3.out.drew)
        have HS8 := Lib.hid (fun (W : World) (hW : Keeps [] w2 W) => (⟨hW.cellSome A0.out (by simp), hW.cellSome A1.out (by simp), hW.cellSome D0.out (by simp), hW.cellSome D1.out (by simp), cell_of_block (hW.some HB1.out (by simp)) 0, cell_of_block (hW.some HB2.out (by simp)) 0⟩ : (fun W => W.cell? ⟨sab, 0, none⟩ = some (.iface tt1 tp1) ∧ W.cell? ⟨sab, 1, none⟩ = some (.map mm1) ∧ W.cell? ⟨sbb, 0, none⟩ = some (.iface tt2 tp2) ∧ W.cell? ⟨sbb, 1, none⟩ = some (.map mm2) ∧ W.cell? ⟨b1, 0, none⟩ = some (.int .i64 n) ∧ W.cell? ⟨b2, 0, none⟩ = some (.int .i64 n2)) W))
        clear a0 a1 d0 d1
        refine wp_region_held_drew (S := (fun W => W.cell? ⟨sab, 0, none⟩ = some (.iface tt1 tp1) ∧ W.cell? ⟨sab, 1, none⟩ = some (.map mm1) ∧ W.cell? ⟨sbb, 0, none⟩ = some (.iface tt2 tp2) ∧ W.cell? ⟨sbb, 1, none⟩ = some (.map mm2) ∧ W.cell? ⟨b1, 0, none⟩ = some (.int .i64 n) ∧ W.cell? ⟨b2, 0, none⟩ = some (.int .i64 n2))) (by kernel_rfl) ?_ (fun hHeld => ?_)
        · exact HS8.out _ HKD.out
        refine wpAnyH_take (i := 0) (by simp only [qgA, qgC]; rfl) (by kernel_rfl) (by kernel_rfl) (by kernel_rfl) (by exact fun _ _ _ h => h) (Or.inl ⟨by rfl, by intro w hSw; (try dsimp only at hSw); first | (go_simp; done) | (go_simp; with_reducible rfl)⟩) (by assumption) ?_
        try simp only [Act.put, qsA, qsB, qsC]
        refine wpAnyH_take (i := 1) (by simp only [qgA, qgB, qgC]; rfl) (by kernel_rfl) (by kernel_rfl) (by kernel_rfl) (by exact fun _ _ _ h => h) (Or.inl ⟨by rfl, by intro w hSw; (try dsimp only at hSw); first | (go_simp; done) | (go_simp; with_reducible rfl)⟩) (by assumption) ?_
        try simp only [Act.put, qsA, qsB, qsC]
        refine wpAnyH_ready (rs := [2]) (by kernel_rfl) (by simp) ?_
        refine AllReadyH.cons rfl (fun K hK => ?_) AllReadyH.nil
        go_simp
        refine (HANY1.out _ HKD.out).mono ?_
        rintro e W5 ⟨rfl, hk5⟩
        have HK5 := Lib.hid (HKD.out.trans0 hk5)
        clear hk5
        have hd : decide (n ∈ la) = false := by simpa using hna
        rw [hd]
        clear hd
        go_wp2_with fail
        refine hK.out _ _ (HS8.out _ HK5.out) (fun hHeld2 => ?_)
        clear hK K hHeld
        try simp only [Act.put, qsA, qsB, qsC]
        refine wpAnyH_take (i := 3) (by simp only [qgA, qgB, qgC]; rfl) (by kernel_rfl) (by kernel_rfl) (by kernel_rfl) (by exact fun _ _ _ h => h) (Or.inl ⟨by rfl, by intro w hSw; (try dsimp only at hSw); first | (go_simp; done) | (go_simp; with_reducible rfl)⟩) (by assumption) ?_
        try simp only [Act.put, qsA, qsB, qsC]
        refine wpAnyH_take (i := 4) (by simp only [qgA, qgB, qgC]; rfl) (by kernel_rfl) (by kernel_rfl) (by kernel_rfl) (by exact fun _ _ _ h => h) (Or.inl ⟨by rfl, by intro w hSw; (try dsimp only at hSw); first | (go_simp; done) | (go_simp; with_reducible rfl)⟩) (by assumption) ?_
        try simp only [Act.put, qsA, qsB, qsC]
        refine wpAnyH_take (i := 5) (by simp only [qgA, qgB, qgC]; rfl) (by kernel_rfl) (by kernel_rfl) (by kernel_rfl) (by exact fun _ _ _ h => h) (Or.inl ⟨by rfl, by intro w hSw; (try dsimp only at hSw); first | (go_simp; done) | (go_simp; with_reducible rfl)⟩) (by assumption) ?_
        try simp only [Act.put, qsA, qsB, qsC]
        refine wpAnyH_take (i := 6) (by simp only [qgA, qgB, qgC]; rfl) (by kernel_rfl) (by kernel_rfl) (by kernel_rfl) (by exact fun _ _ _ h => h) (Or.inl ⟨by rfl, by intro w hSw; (try dsimp only at hSw); first | (go_simp; done) | (go_simp; with_reducible rfl)⟩) (by assumption) ?_
        try simp only [Act.put, qsA, qsB, qsC]
        refine wpAnyH_ready (rs := [7]) (by kernel_rfl) (by simp) ?_
        refine AllReadyH.cons rfl (fun K hK => ?_) AllReadyH.nil
        go_simp
        refine (HANY2.out _ HK5.out).mono ?_
        rintro e W6 ⟨rfl, hk6⟩
        have HK6 := Lib.hid (HK5.out.trans0 hk6)
        clear hk6
        have hd : decide (n2 ∈ lb) = true := by simpa using hnb
        rw [hd]
        clear hd
        go_wp2_with fail
        refine hK.out _ _ (HS8.out _ HK6.out) (fun hHeld3 => ?_)
        clear hK K hHeld2
        try simp only [Act.put, qsA, qsB, qsC]
        refine wpAnyH_take (i := 8) (by simp only [qgA, qgB, qgC]; rfl) (by kernel_rfl) (by kernel_rfl) (by kernel_rfl) (by exact fun _ _ _ h => h) (Or.inl ⟨by rfl, by intro w hSw; (try dsimp only at hSw); first | (go_simp; done) | (go_simp; with_reducible rfl)⟩) (by assumption) ?_
        try simp only [Act.put, qsA, qsB, qsC]
        refine wpAnyH_take (i := 9) (by simp only [qgA, qgB, qgC]; rfl) (by kernel_rfl) (by kernel_rfl) (by kernel_rfl) (by exact fun _ _ _ h => h) (Or.inl ⟨by rfl, by intro w hSw; (try dsimp only at hSw); first | (go_simp; done) | (go_simp; with_reducible rfl)⟩) (by assumption) ?_
        try simp only [Act.put, qsA, qsB, qsC]
        refine wpAnyH_take (i := 10) (by simp only [qgA, qgB, qgC]; rfl) (by kernel_rfl) (by kernel_rfl) (by kernel_rfl) (by exact fun _ _ _ h => h) (Or.inl ⟨by rfl, by intro w hSw; (try dsimp only at hSw); first | (go_simp; done) | (go_simp; with_reducible rfl)⟩) (by assumption) ?_
        try simp only [Act.put, qsA, qsB, qsC]
        refine wpAnyH_take (i := 11) (v := undef) (by simp only [qgA, qgB, qgC]; rfl) (by kernel_rfl) (by kernel_rfl) (by kernel_rfl) (by exact fun _ _ _ h => h) (Or.inr ⟨by rfl, rfl⟩) (by assumption) ?_
        try simp only [Act.put, qsA, qsB, qsC]
        refine wpAnyH_take (i := 12) (v := undef) (by simp only [qgA, qgB, qgC]; rfl) (by kernel_rfl) (by kernel_rfl) (by kernel_rfl) (by exact fun _ _ _ h => h) (Or.inr ⟨by rfl, rfl⟩) (by assumption) ?_
        try simp only [Act.put, qsA, qsB, qsC]
        refine wpAnyH_take (i := 13) (v := undef) (by simp only [qgA, qgB, qgC]; rfl) (by kernel_rfl) (by kernel_rfl) (by kernel_rfl) (by exact fun _ _ _ h => h) (Or.inr ⟨by rfl, rfl⟩) (by assumption) ?_
        try simp only [Act.put, qsA, qsB, qsC]
        refine wpAnyH_take (i := 14) (v := undef) (by simp only [qgA, qgB, qgC]; rfl) (by kernel_rfl) (by kernel_rfl) (by kernel_rfl) (by exact fun _ _ _ h => h) (Or.inr ⟨by rfl, rfl⟩) (by assumption) ?_
        try simp only [Act.put, qsA, qsB, qsC]
        refine wpAnyH_take (i := 15) (v := undef) (by simp only [qgA, qgB, qgC]; rfl) (by kernel_rfl) (by kernel_rfl) (by kernel_rfl) (by exact fun _ _ _ h => h) (Or.inr ⟨by rfl, rfl⟩) (by assumption) ?_
        try simp only [Act.put, qsA, qsB, qsC]
        refine wpAnyH_take (i := 16) (v := undef) (by simp only [qgA, qgB, qgC]; rfl) (by kernel_rfl) (by kernel_rfl) (by kernel_rfl) (by exact fun _ _ _ h => h) (Or.inr ⟨by rfl, rfl⟩) (by assumption) ?_
        try simp only [Act.put, qsA, qsB, qsC]
        refine wpAnyH_take (i := 17) (v := undef) (by simp only [qgA, qgB, qgC]; rfl) (by kernel_rfl) (by kernel_rfl) (by kernel_rfl) (by exact fun _ _ _ h => h) (Or.inr ⟨by rfl, rfl⟩) (by assumption) ?_
        try simp only [Act.put, qsA, qsB, qsC]
        refine wpAnyH_take (i := 18) (v := undef) (by simp only [qgA, qgB, qgC]; rfl) (by kernel_rfl) (by kernel_rfl) (by kernel_rfl) (by exact fun _ _ _ h => h) (Or.inr ⟨by rfl, rfl⟩) (by assumption) ?_
        try simp only [Act.put, qsA, qsB, qsC]
        refine wpAnyH_take (i := 19) (v := undef) (by simp only [qgA, qgB, qgC]; rfl) (by kernel_rfl) (by kernel_rfl) (by kernel_rfl) (by exact fun _ _ _ h => h) (Or.inr ⟨by rfl, rfl⟩) (by assumption) ?_
        try simp only [Act.put, qsA, qsB, qsC]
        refine wpAnyH_take (i := 20) (by simp only [qgA, qgB, qgC]; rfl) (by kernel_rfl) (by kernel_rfl) (by kernel_rfl) (by exact fun _ _ _ h => h) (Or.inl ⟨by rfl, by intro w hSw; (try dsimp only at hSw); first | (go_simp; done) | (go_simp; with_reducible rfl)⟩) (by assumption) ?_
        try simp only [Act.put, qsA, qsB, qsC]
        refine wpAnyH_take (i := 21) (by simp only [qgA, qgB, qgC]; rfl) (by kernel_rfl) (by kernel_rfl) (by kernel_rfl) (by exact fun _ _ _ h => h) (Or.inl ⟨by rfl, by intro w hSw; (try dsimp only at hSw); first | (go_simp; done) | (go_simp; with_reducible rfl)⟩) (by assumption) ?_
        try simp only [Act.put, qsA, qsB, qsC]
        refine wpAnyH_done (by kernel_rfl) ?_ _
        go_wp2_with fail
        go_ret
        refine ⟨(HK2.out.trans0 HK6.out.kv0).mono (by simp), ?_⟩
        rw [HVV.out, if_neg (fun h => hna h.1), if_neg (fun h => h.2.1 hnb)]
        exact rfl
      · by_cases hnn : n = n2
        · have HNN := Lib.hid hnn
          have g1 : decide ((n : Int) = (n2 : Int)) = true := by simp; omega
          have g2 : ((n : Int) == (n2 : Int)) = true := by simp; omega
          clear hnn
          have HKD := Lib.hid (HK3.out.drew)
          have HS8 := Lib.hid (fun (W : World) (hW : Keeps [] w2 W) => (⟨hW.cellSome A0.out (by simp), hW.cellSome A1.out (by simp), hW.cellSome D0.out (by simp), hW.cellSome D1.out (by simp), cell_of_block (hW.some HB1.out (by simp)) 0, cell_of_block (hW.some HB2.out (by simp)) 0⟩ : (fun W => W.cell? ⟨sab, 0, none⟩ = some (.iface tt1 tp1) ∧ W.cell? ⟨sab, 1, none⟩ = some (.map mm1) ∧ W.cell? ⟨sbb, 0, none⟩ = some (.iface tt2 tp2) ∧ W.cell? ⟨sbb, 1, none⟩ = some (.map mm2) ∧ W.cell? ⟨b1, 0, none⟩ = some (.int .i64 n) ∧ W.cell? ⟨b2, 0, none⟩ = some (.int .i64 n2)) W))
          clear a0 a1 d0 d1
          refine wp_region_held_drew (S := (fun W => W.cell? ⟨sab, 0, none⟩ = some (.iface tt1 tp1) ∧ W.cell? ⟨sab, 1, none⟩ = some (.map mm1) ∧ W.cell? ⟨sbb, 0, none⟩ = some (.iface tt2 tp2) ∧ W.cell? ⟨sbb, 1, none⟩ = some (.map mm2) ∧ W.cell? ⟨b1, 0, none⟩ = some (.int .i64 n) ∧ W.cell? ⟨b2, 0, none⟩ = some (.int .i64 n2))) (by kernel_rfl) ?_ (fun hHeld => ?_)
          · exact HS8.out _ HKD.out
          refine wpAnyH_take (i := 0) (by simp only [qgA, qgC]; rfl) (by kernel_rfl) (by kernel_rfl) (by kernel_rfl) (by exact fun _ _ _ h => h) (Or.inl ⟨by rfl, by intro w hSw; (try dsimp only at hSw); first | (go_simp; done) | (go_simp; with_reducible rfl)⟩) (by assumption) ?_
          try simp only [Act.put, qsA, qsB, qsC]
          refine wpAnyH_take (i := 1) (by simp only [qgA, qgB, qgC]; rfl) (by kernel_rfl) (by kernel_rfl) (by kernel_rfl) (by exact fun _ _ _ h => h) (Or.inl ⟨by rfl, by intro w hSw; (try dsimp only at hSw); first | (go_simp; done) | (go_simp; with_reducible rfl)⟩) (by assumption) ?_
          try simp only [Act.put, qsA, qsB, qsC]
          refine wpAnyH_ready (rs := [2]) (by kernel_rfl) (by simp) ?_
          refine AllReadyH.cons rfl (fun K hK => ?_) AllReadyH.nil
          go_simp
          refine (HANY1.out _ HKD.out).mono ?_
          rintro e W5 ⟨rfl, hk5⟩
          have HK5 := Lib.hid (HKD.out.trans0 hk5)
          clear hk5
          have hd : decide (n ∈ la) = false := by simpa using hna
          rw [hd]
          clear hd
          go_wp2_with fail
          refine hK.out _ _ (HS8.out _ HK5.out) (fun hHeld2 => ?_)
          clear hK K hHeld
          try simp only [Act.put, qsA, qsB, qsC]
          refine wpAnyH_take (i := 3) (by simp only [qgA, qgB, qgC]; rfl) (by kernel_rfl) (by kernel_rfl) (by kernel_rfl) (by exact fun _ _ _ h => h) (Or.inl ⟨by rfl, by intro w hSw; (try dsimp only at hSw); first | (go_simp; done) | (go_simp; with_reducible rfl)⟩) (by assumption) ?_
          try simp only [Act.put, qsA, qsB, qsC]
          refine wpAnyH_take (i := 4) (by simp only [qgA, qgB, qgC]; rfl) (by kernel_rfl) (by kernel_rfl) (by kernel_rfl) (by exact fun _ _ _ h => h) (Or.inl ⟨by rfl, by intro w hSw; (try dsimp only at hSw); first | (go_simp; done) | (go_simp; with_reducible rfl)⟩) (by assumption) ?_
          try simp only [Act.put, qsA, qsB, qsC]
          refine wpAnyH_take (i := 5) (by simp only [qgA, qgB, qgC]; rfl) (by kernel_rfl) (by kernel_rfl) (by kernel_rfl) (by exact fun _ _ _ h => h) (Or.inl ⟨by rfl, by intro w hSw; (try dsimp only at hSw); first | (go_simp; done) | (go_simp; with_reducible rfl)⟩) (by assumption) ?_
          try simp only [Act.put, qsA, qsB, qsC]
          refine wpAnyH_take (i := 6) (by simp only [qgA, qgB, qgC]; rfl) (by kernel_rfl) (by kernel_rfl) (by kernel_rfl) (by exact fun _ _ _ h => h) (Or.inl ⟨by rfl, by intro w hSw; (try dsimp only at hSw); first | (go_simp; done) | (go_simp; with_reducible rfl)⟩) (by assumption) ?_
          try simp only [Act.put, qsA, qsB, qsC]
          refine wpAnyH_ready (rs := [7]) (by kernel_rfl) (by simp) ?_
          refine AllReadyH.cons rfl (fun K hK => ?_) AllReadyH.nil
          go_simp
          refine (HANY2.out _ HK5.out).mono ?_
          rintro e W6 ⟨rfl, hk6⟩
          have HK6 := Lib.hid (HK5.out.trans0 hk6)
          clear hk6
          have hd : decide (n2 ∈ lb) = false := by simpa using hnb
          rw [hd]
          clear hd
          go_wp2_with fail
          refine hK.out _ _ (HS8.out _ HK6.out) (fun hHeld3 => ?_)
          clear hK K hHeld2
          try simp only [Act.put, qsA, qsB, qsC]
          refine wpAnyH_take (i := 8) (by simp only [qgA, qgB, qgC]; rfl) (by kernel_rfl) (by kernel_rfl) (by kernel_rfl) (by exact fun _ _ _ h => h) (Or.inl ⟨by rfl, by intro w hSw; (try dsimp only at hSw); first | (go_simp; done) | (go_simp; with_reducible rfl)⟩) (by assumption) ?_
          try simp only [Act.put, qsA, qsB, qsC]
          refine wpAnyH_take (i := 9) (by simp only [qgA, qgB, qgC]; rfl) (by kernel_rfl) (by kernel_rfl) (by kernel_rfl) (by exact fun _ _ _ h => h) (Or.inl ⟨by rfl, by intro w hSw; (try dsimp only at hSw); first | (go_simp; done) | (go_simp; with_reducible rfl)⟩) (by assumption) ?_
          try simp only [Act.put, qsA, qsB, qsC]
          refine wpAnyH_take (i := 10) (by simp only [qgA, qgB, qgC]; rfl) (by kernel_rfl) (by kernel_rfl) (by kernel_rfl) (by exact fun _ _ _ h => h) (Or.inl ⟨by rfl, by intro w hSw; (try dsimp only at hSw); first | (go_simp; done) | (go_simp; with_reducible rfl)⟩) (by assumption) ?_
          try simp only [Act.put, qsA, qsB, qsC]
          refine wpAnyH_take (i := 11) (by simp only [qgA, qgB, qgC]; rfl) (by kernel_rfl) (by kernel_rfl) (by kernel_rfl) (by exact fun _ _ _ h => h) (Or.inl ⟨by rfl, by intro w hSw; (try dsimp only at hSw); first | (go_simp; done) | (go_simp; with_reducible rfl)⟩) (by assumption) ?_
          try simp only [Act.put, qsA, qsB, qsC]
          refine wpAnyH_take (i := 12) (by simp only [qgA, qgB, qgC]; rfl) (by kernel_rfl) (by kernel_rfl) (by kernel_rfl) (by exact fun _ _ _ h => h) (Or.inl ⟨by rfl, by intro w hSw; (try dsimp only at hSw); first | (go_simp; done) | (go_simp; with_reducible rfl)⟩) (by assumption) ?_
          try simp only [Act.put, qsA, qsB, qsC]
          refine wpAnyH_take (i := 13) (by simp only [qgA, qgB, qgC]; rfl) (by kernel_rfl) (by kernel_rfl) (by kernel_rfl) (by exact fun _ _ _ h => h) (Or.inl ⟨by rfl, by intro w hSw; (try dsimp only at hSw); first | (go_simp; done) | (go_simp; with_reducible rfl)⟩) (by assumption) ?_
          try simp only [Act.put, qsA, qsB, qsC]
          refine wpAnyH_take (i := 14) (by simp only [qgA, qgB, qgC]; rfl) (by kernel_rfl) (by kernel_rfl) (by kernel_rfl) (by exact fun _ _ _ h => h) (Or.inl ⟨by rfl, by intro w hSw; (try dsimp only at hSw); first | (go_simp; done) | (go_simp; with_reducible rfl)⟩) (by assumption) ?_
          try simp only [Act.put, qsA, qsB, qsC]
          refine wpAnyH_take (i := 15) (by simp only [qgA, qgB, qgC]; rfl) (by kernel_rfl) (by kernel_rfl) (by kernel_rfl) (by exact fun _ _ _ h => h) (Or.inl ⟨by rfl, by intro w hSw; (try dsimp only at hSw); first | (go_simp; done) | (go_simp; with_reducible rfl)⟩) (by assumption) ?_
          try simp only [Act.put, qsA, qsB, qsC]
          refine wpAnyH_take (i := 16) (by simp only [qgA, qgB, qgC]; rfl) (by kernel_rfl) (by kernel_rfl) (by kernel_rfl) (by exact fun _ _ _ h => h) (Or.inl ⟨by rfl, by intro w hSw; (try dsimp only at hSw); first | (go_simp; done) | (go_simp; with_reducible rfl)⟩) (by assumption) ?_
          try simp only [Act.put, qsA, qsB, qsC]
          refine wpAnyH_take (i := 17) (by simp only [qgA, qgB, qgC]; rfl) (by kernel_rfl) (by kernel_rfl) (by kernel_rfl) (by exact fun _ _ _ h => h) (Or.inl ⟨by rfl, by intro w hSw; (try dsimp only at hSw); first | (go_simp; done) | (go_simp; with_reducible rfl)⟩) (by assumption) ?_
          try simp only [Act.put, qsA, qsB, qsC]
          refine wpAnyH_take (i := 18) (by simp only [qgA, qgB, qgC]; rfl) (by kernel_rfl) (by kernel_rfl) (by kernel_rfl) (by exact fun _ _ _ h => h) (Or.inl ⟨by rfl, by intro w hSw; (try dsimp only at hSw); first | (go_simp; done) | (go_simp; with_reducible rfl)⟩) (by assumption) ?_
          try simp only [Act.put, qsA, qsB, qsC]
          refine wpAnyH_take (i := 19) (by simp only [qgA, qgB, qgC]; rfl) (by kernel_rfl) (by kernel_rfl) (by kernel_rfl) (by exact fun _ _ _ h => h) (Or.inl ⟨by rfl, by intro w hSw; (try dsimp only at hSw); first | (go_simp; done) | (go_simp; with_reducible rfl)⟩) (by assumption) ?_
          try simp only [Act.put, qsA, qsB, qsC]
          refine wpAnyH_take (i := 20) (by simp only [qgA, qgB, qgC]; rfl) (by kernel_rfl) (by kernel_rfl) (by kernel_rfl) (by exact fun _ _ _ h => h) (Or.inl ⟨by rfl, by intro w hSw; (try dsimp only at hSw); first | (go_simp; done) | (go_simp; with_reducible rfl)⟩) (by assumption) ?_
          try simp only [Act.put, qsA, qsB, qsC]
          refine wpAnyH_take (i := 21) (by simp only [qgA, qgB, qgC]; rfl) (by kernel_rfl) (by kernel_rfl) (by kernel_rfl) (by exact fun _ _ _ h => h) (Or.inl ⟨by rfl, by intro w hSw; (try dsimp only at hSw); first | (go_simp; done) | (go_simp; with_reducible rfl)⟩) (by assumption) ?_
          try simp only [Act.put, qsA, qsB, qsC]
          refine wpAnyH_done (by kernel_rfl) ?_ _
          go_wp2_with fail
          go_ret
          refine AlkPost.behind (AlkPost.same (c := true) H2.out HK6.out.kv0 ?_) HK2.out
          rw [HVV.out, if_neg (fun h => hna h.1), if_pos ⟨hna, hnb, HNN.out⟩]
          rfl
        · have HNN := Lib.hid hnn
          have g1 : decide ((n : Int) = (n2 : Int)) = false := by simp; omega
          have g2 : ((n : Int) == (n2 : Int)) = false := by simp; omega
          clear hnn
          have HKD := Lib.hid (HK3.out.drew)
          have HS8 := Lib.hid (fun (W : World) (hW : Keeps [] w2 W) => (⟨hW.cellSome A0.out (by simp), hW.cellSome A1.out (by simp), hW.cellSome D0.out (by simp), hW.cellSome D1.out (by simp), cell_of_block (hW.some HB1.out (by simp)) 0, cell_of_block (hW.some HB2.out (by simp)) 0⟩ : (fun W => W.cell? ⟨sab, 0, none⟩ = some (.iface tt1 tp1) ∧ W.cell? ⟨sab, 1, none⟩ = some (.map mm1) ∧ W.cell? ⟨sbb, 0, none⟩ = some (.iface tt2 tp2) ∧ W.cell? ⟨sbb, 1, none⟩ = some (.map mm2) ∧ W.cell? ⟨b1, 0, none⟩ = some (.int .i64 n) ∧ W.cell? ⟨b2, 0, none⟩ = some (.int .i64 n2)) W))
          clear a0 a1 d0 d1
          refine wp_region_held_drew (S := (fun W => W.cell? ⟨sab, 0, none⟩ = some (.iface tt1 tp1) ∧ W.cell? ⟨sab, 1, none⟩ = some (.map mm1) ∧ W.cell? ⟨sbb, 0, none⟩ = some (.iface tt2 tp2) ∧ W.cell? ⟨sbb, 1, none⟩ = some (.map mm2) ∧ W.cell? ⟨b1, 0, none⟩ = some (.int .i64 n) ∧ W.cell? ⟨b2, 0, none⟩ = some (.int .i64 n2))) (by kernel_rfl) ?_ (fun hHeld => ?_)
          · exact HS8.out _ HKD.out
          refine wpAnyH_take (i := 0) (by simp only [qgA, qgC]; rfl) (by kernel_rfl) (by kernel_rfl) (by kernel_rfl) (by exact fun _ _ _ h => h) (Or.inl ⟨by rfl, by intro w hSw; (try dsimp only at hSw); first | (go_simp; done) | (go_simp; with_reducible rfl)⟩) (by assumption) ?_
          try simp only [Act.put, qsA, qsB, qsC]
          refine wpAnyH_take (i := 1) (by simp only [qgA, qgB, qgC]; rfl) (by kernel_rfl) (by kernel_rfl) (by kernel_rfl) (by exact fun _ _ _ h => h) (Or.inl ⟨by rfl, by intro w hSw; (try dsimp only at hSw); first | (go_simp; done) | (go_simp; with_reducible rfl)⟩) (by assumption) ?_
          try simp only [Act.put, qsA, qsB, qsC]
          refine wpAnyH_ready (rs := [2]) (by kernel_rfl) (by simp) ?_
          refine AllReadyH.cons rfl (fun K hK => ?_) AllReadyH.nil
          go_simp
          refine (HANY1.out _ HKD.out).mono ?_
          rintro e W5 ⟨rfl, hk5⟩
          have HK5 := Lib.hid (HKD.out.trans0 hk5)
          clear hk5
          have hd : decide (n ∈ la) = false := by simpa using hna
          rw [hd]
          clear hd
          go_wp2_with fail
          refine hK.out _ _ (HS8.out _ HK5.out) (fun hHeld2 => ?_)
          clear hK K hHeld
          try simp only [Act.put, qsA, qsB, qsC]
          refine wpAnyH_take (i := 3) (by simp only [qgA, qgB, qgC]; rfl) (by kernel_rfl) (by kernel_rfl) (by kernel_rfl) (by exact fun _ _ _ h => h) (Or.inl ⟨by rfl, by intro w hSw; (try dsimp only at hSw); first | (go_simp; done) | (go_simp; with_reducible rfl)⟩) (by assumption) ?_
          try simp only [Act.put, qsA, qsB, qsC]
          refine wpAnyH_take (i := 4) (by simp only [qgA, qgB, qgC]; rfl) (by kernel_rfl) (by kernel_rfl) (by kernel_rfl) (by exact fun _ _ _ h => h) (Or.inl ⟨by rfl, by intro w hSw; (try dsimp only at hSw); first | (go_simp; done) | (go_simp; with_reducible rfl)⟩) (by assumption) ?_
          try simp only [Act.put, qsA, qsB, qsC]
          refine wpAnyH_take (i := 5) (by simp only [qgA, qgB, qgC]; rfl) (by kernel_rfl) (by kernel_rfl) (by kernel_rfl) (by exact fun _ _ _ h => h) (Or.inl ⟨by rfl, by intro w hSw; (try dsimp only at hSw); first | (go_simp; done) | (go_simp; with_reducible rfl)⟩) (by assumption) ?_
          try simp only [Act.put, qsA, qsB, qsC]
          refine wpAnyH_take (i := 6) (by simp only [qgA, qgB, qgC]; rfl) (by kernel_rfl) (by kernel_rfl) (by kernel_rfl) (by exact fun _ _ _ h => h) (Or.inl ⟨by rfl, by intro w hSw; (try dsimp only at hSw); first | (go_simp; done) | (go_simp; with_reducible rfl)⟩) (by assumption) ?_
          try simp only [Act.put, qsA, qsB, qsC]
          refine wpAnyH_ready (rs := [7]) (by kernel_rfl) (by simp) ?_
          refine AllReadyH.cons rfl (fun K hK => ?_) AllReadyH.nil
          go_simp
          refine (HANY2.out _ HK5.out).mono ?_
          rintro e W6 ⟨rfl, hk6⟩
          have HK6 := Lib.hid (HK5.out.trans0 hk6)
          clear hk6
          have hd : decide (n2 ∈ lb) = false := by simpa using hnb
          rw [hd]
          clear hd
          go_wp2_with fail
          refine hK.out _ _ (HS8.out _ HK6.out) (fun hHeld3 => ?_)
          clear hK K hHeld2
          try simp only [Act.put, qsA, qsB, qsC]
          refine wpAnyH_take (i := 8) (by simp only [qgA, qgB, qgC]; rfl) (by kernel_rfl) (by kernel_rfl) (by kernel_rfl) (by exact fun _ _ _ h => h) (Or.inl ⟨by rfl, by intro w hSw; (try dsimp only at hSw); first | (go_simp; done) | (go_simp; with_reducible rfl)⟩) (by assumption) ?_
          try simp only [Act.put, qsA, qsB, qsC]
          refine wpAnyH_take (i := 9) (by simp only [qgA, qgB, qgC]; rfl) (by kernel_rfl) (by kernel_rfl) (by kernel_rfl) (by exact fun _ _ _ h => h) (Or.inl ⟨by rfl, by intro w hSw; (try dsimp only at hSw); first | (go_simp; done) | (go_simp; with_reducible rfl)⟩) (by assumption) ?_
          try simp only [Act.put, qsA, qsB, qsC]
          refine wpAnyH_take (i := 10) (by simp only [qgA, qgB, qgC]; rfl) (by kernel_rfl) (by kernel_rfl) (by kernel_rfl) (by exact fun _ _ _ h => h) (Or.inl ⟨by rfl, by intro w hSw; (try dsimp only at hSw); first | (go_simp; done) | (go_simp; with_reducible rfl)⟩) (by assumption) ?_
          try simp only [Act.put, qsA, qsB, qsC]
          refine wpAnyH_take (i := 11) (by simp only [qgA, qgB, qgC]; rfl) (by kernel_rfl) (by kernel_rfl) (by kernel_rfl) (by exact fun _ _ _ h => h) (Or.inl ⟨by rfl, by intro w hSw; (try dsimp only at hSw); first | (go_simp; done) | (go_simp; with_reducible rfl)⟩) (by assumption) ?_
          try simp only [Act.put, qsA, qsB, qsC]
          refine wpAnyH_take (i := 12) (by simp only [qgA, qgB, qgC]; rfl) (by kernel_rfl) (by kernel_rfl) (by kernel_rfl) (by exact fun _ _ _ h => h) (Or.inl ⟨by rfl, by intro w hSw; (try dsimp only at hSw); first | (go_simp; done) | (go_simp; with_reducible rfl)⟩) (by assumption) ?_
          try simp only [Act.put, qsA, qsB, qsC]
          refine wpAnyH_take (i := 13) (by simp only [qgA, qgB, qgC]; rfl) (by kernel_rfl) (by kernel_rfl) (by kernel_rfl) (by exact fun _ _ _ h => h) (Or.inl ⟨by rfl, by intro w hSw; (try dsimp only at hSw); first | (go_simp; done) | (go_simp; with_reducible rfl)⟩) (by assumption) ?_
          try simp only [Act.put, qsA, qsB, qsC]
          refine wpAnyH_take (i := 14) (by simp only [qgA, qgB, qgC]; rfl) (by kernel_rfl) (by kernel_rfl) (by kernel_rfl) (by exact fun _ _ _ h => h) (Or.inl ⟨by rfl, by intro w hSw; (try dsimp only at hSw); first | (go_simp; done) | (go_simp; with_reducible rfl)⟩) (by assumption) ?_
          try simp only [Act.put, qsA, qsB, qsC]
          refine wpAnyH_take (i := 15) (by simp only [qgA, qgB, qgC]; rfl) (by kernel_rfl) (by kernel_rfl) (by kernel_rfl) (by exact fun _ _ _ h => h) (Or.inl ⟨by rfl, by intro w hSw; (try dsimp only at hSw); first | (go_simp; done) | (go_simp; with_reducible rfl)⟩) (by assumption) ?_
          try simp only [Act.put, qsA, qsB, qsC]
          refine wpAnyH_take (i := 16) (by simp only [qgA, qgB, qgC]; rfl) (by kernel_rfl) (by kernel_rfl) (by kernel_rfl) (by exact fun _ _ _ h => h) (Or.inl ⟨by rfl, by intro w hSw; (try dsimp only at hSw); first | (go_simp; done) | (go_simp; with_reducible rfl)⟩) (by assumption) ?_
          try simp only [Act.put, qsA, qsB, qsC]
          refine wpAnyH_take (i := 17) (by simp only [qgA, qgB, qgC]; rfl) (by kernel_rfl) (by kernel_rfl) (by kernel_rfl) (by exact fun _ _ _ h => h) (Or.inl ⟨by rfl, by intro w hSw; (try dsimp only at hSw); first | (go_simp; done) | (go_simp; with_reducible rfl)⟩) (by assumption) ?_
          try simp only [Act.put, qsA, qsB, qsC]
          refine wpAnyH_take (i := 18) (by simp only [qgA, qgB, qgC]; rfl) (by kernel_rfl) (by kernel_rfl) (by kernel_rfl) (by exact fun _ _ _ h => h) (Or.inl ⟨by rfl, by intro w hSw; (try dsimp only at hSw); first | (go_simp; done) | (go_simp; with_reducible rfl)⟩) (by assumption) ?_
          try simp only [Act.put, qsA, qsB, qsC]
          refine wpAnyH_take (i := 19) (by simp only [qgA, qgB, qgC]; rfl) (by kernel_rfl) (by kernel_rfl) (by kernel_rfl) (by exact fun _ _ _ h => h) (Or.inl ⟨by rfl, by intro w hSw; (try dsimp only at hSw); first | (go_simp; done) | (go_simp; with_reducible rfl)⟩) (by assumption) ?_
          try simp only [Act.put, qsA, qsB, qsC]
          refine wpAnyH_take (i := 20) (by simp only [qgA, qgB, qgC]; rfl) (by kernel_rfl) (by kernel_rfl) (by kernel_rfl) (by exact fun _ _ _ h => h) (Or.inl ⟨by rfl, by intro w hSw; (try dsimp only at hSw); first | (go_simp; done) | (go_simp; with_reducible rfl)⟩) (by assumption) ?_
          try simp only [Act.put, qsA, qsB, qsC]
          refine wpAnyH_take (i := 21) (by simp only [qgA, qgB, qgC]; rfl) (by kernel_rfl) (by kernel_rfl) (by kernel_rfl) (by exact fun _ _ _ h => h) (Or.inl ⟨by rfl, by intro w hSw; (try dsimp only at hSw); first | (go_simp; done) | (go_simp; with_reducible rfl)⟩) (by assumption) ?_
          try simp only [Act.put, qsA, qsB, qsC]
          refine wpAnyH_done (by kernel_rfl) ?_ _
          go_wp2_with fail
          go_ret
          refine ⟨(HK2.out.trans0 HK6.out.kv0).mono (by simp), ?_⟩
          rw [HVV.out, if_neg (fun h => hna h.1), if_neg (fun h => HNN.out h.2.2)]
          exact rfl
  · have hyf := eq_false_of_ne_true hyv
    obtain ⟨c, ad, cap, vs, rfl, hc, _, _⟩ := hry.kids hyf
    have htb := cvT (.pointer (some ⟨c, 0, none⟩)) 116 w2
    clear hc hyv
    go_wp2_with fail
    go_ret
    refine ⟨HK2.out.mono (by simp), ?_⟩
    rw [alike_mix (by rw [hyf]; simp [isVarT])]
    exact rfl
end Go.Proofs.YtpbplpnifjbkoabGreatDoor

namespace Go.Proofs.YtpbplpnifjbkoabGreatDoor
open Go.RowKit

theorem alikeK_step {a b : List Nat} {kx ky : List Ty} {j : Nat} {x y : Ty} (hx : kx[j]? = some x) (hy : ky[j]? = some y) (to fr : List (Nat × Nat)) :
    alikeK a b (kx.drop j) (ky.drop j) to fr = (alikeT a b x y to fr).bind fun p => alikeK a b (kx.drop (j + 1)) (ky.drop (j + 1)) p.1 p.2 := by
  obtain ⟨h1, rfl⟩ := List.getElem?_eq_some_iff.1 hx
  obtain ⟨h2, rfl⟩ := List.getElem?_eq_some_iff.1 hy
  rw [List.drop_eq_getElem_cons h1, List.drop_eq_getElem_cons h2]
  rfl
theorem RowC.at' {w : World} {g : Nat} {vs : List Value} (h : RowC w (some ⟨g, 0, none⟩) vs) {j : Nat} {v : Value} (hv : vs[j]? = some v) : w.cell? ⟨g, j, none⟩ = some v := by
  obtain ⟨g', h1, h2⟩ := h.cell hv
  cases h1
  exact h2

set_option maxRecDepth 100000 in
set_option maxHeartbeats 8000000 in
theorem alk_any [Inhabited Low] [Inhabited Bar] {sab sbb tbx fbx mbx tm fm : Nat} {ta tb ma mb : Value} {la lb vb : List Nat} (hta : ∃ tt tp, ta = .iface tt tp) (htb : ∃ tt tp, tb = .iface tt tp) (hvb : vb.length ≤ 100000) (k : Nat) :
    ∀ x : Ty, x.size ≤ k → AlkOK sab sbb tbx fbx mbx tm fm ta tb ma mb la lb vb x := by
  obtain ⟨tt1, tp1, rfl⟩ := hta
  obtain ⟨tt2, tp2, rfl⟩ := htb
  induction k with
  | zero => intro a h; have := a.size_pos; omega
  | succ k ih =>
    intro x hsz
    by_cases hxv : isVarT x = true
    · obtain ⟨n, rfl⟩ : ∃ n, x = .var n := by cases x <;> first | exact ⟨_, rfl⟩ | simp [isVarT] at hxv
      exact alk_var ⟨_, _, rfl⟩ ⟨_, _, rfl⟩ hvb n
    have hxf := eq_false_of_ne_true hxv
    intro y to fr w va vc hx hy hst
    obtain ⟨r1, hf1⟩ := hx.fnd
    obtain ⟨r2, hf2⟩ := hy.fnd
    have hs1 := hx.shape
    have hs2 := hy.shape
    have HX := Lib.hid hx
    have HY := Lib.hid hy
    have HST := Lib.hid hst
    have HF1 := Lib.hid hf1
    have HF2 := Lib.hid hf2
    have HS2 := Lib.hid hs2
    have HIH := Lib.hid ih
    have HSZ := Lib.hid hsz
    obtain ⟨ut1, up1, rfl⟩ : ∃ ut up, va = .iface ut up := by rcases hs1 with ⟨_, rfl⟩ | ⟨_, rfl⟩ <;> exact ⟨_, _, rfl⟩
    obtain ⟨ut2, up2, rfl⟩ : ∃ ut up, vc = .iface ut up := by rcases hs2 with ⟨_, rfl⟩ | ⟨_, rfl⟩ <;> exact ⟨_, _, rfl⟩
    clear hx hy hst hf1 hf2 hs2 ih
    go_enter Tryz.func184, Tryz.ntmps184
    go_wp2_with fail
    refine (find_vT HF1.out hs1).mono ?_
    rintro e w1 ⟨rfl, hk1⟩
    have HK1 := Lib.hid hk1
    have HF1' := Lib.hid (hk1.fnd _ _ HF1.out)
    have HF2' := Lib.hid (hk1.fnd _ _ HF2.out)
    have hrs : ∃ c, r1 = cV c := by
      obtain ⟨c, ad, cap, vs, rfl, _⟩ := ((hk1.te HX.out).res HF1'.out).kids hxf
      exact ⟨_, rfl⟩
    obtain ⟨c1, rfl⟩ := hrs
    clear hk1
    go_wp2_with fail
    refine (find_vT HF2'.out HS2.out).mono ?_
    rintro e w2 ⟨rfl, hk2⟩
    have hkk := HK1.out.trans0 hk2
    have hrx := (hkk.te HX.out).res (hkk.fnd _ _ HF1.out)
    have hry := (hkk.te HY.out).res (hkk.fnd _ _ HF2.out)
    obtain ⟨c, ad1, cap1, vs1, e1, hc1, hrow1, hkids1⟩ := hrx.kids hxf
    obtain rfl := cV_inj e1
    have HK2 := Lib.hid hkk
    have H2 := Lib.hid (HST.out.kv hkk)
    have hta := cvT (.pointer (some ⟨c1, 0, none⟩)) 116 w2
    have hta2 := ccF (.pointer (some ⟨c1, 0, none⟩)) 116 w2
    have hta3 := ccF (.pointer (some ⟨c1, 0, none⟩)) 116 w2.drew
    clear hk2 hkk HK1 HF1 HF2 HF1' HF2' HST hs1 HS2 e1 hrx
    by_cases hyv : isVarT y = true
    · obtain ⟨n2, rfl⟩ : ∃ n2, y = .var n2 := by cases y <;> first | exact ⟨_, rfl⟩ | simp [isVarT] at hyv
      obtain ⟨b2, nm2, hn2, hvb2, hr2, hlo2, hb2⟩ := hry
      subst hr2
      have htb := vvT (.pointer (some ⟨b2, 0, none⟩)) 116 w2
      clear hb2 hc1 hrow1 hkids1
      go_wp2_with fail
      go_ret
      refine ⟨HK2.out.mono (by simp), ?_⟩
      rw [alike_mix (by rw [hxf]; simp [isVarT])]
      exact rfl
    have hyf := eq_false_of_ne_true hyv
    obtain ⟨c2, ad2, cap2, vs2, rfl, hc2, hrow2, hkids2⟩ := hry.kids hyf
    have htb := cvT (.pointer (some ⟨c2, 0, none⟩)) 116 w2
    have htb2 := ccF (.pointer (some ⟨c2, 0, none⟩)) 116 w2
    have htb3 := ccF (.pointer (some ⟨c2, 0, none⟩)) 116 w2.drew
    have k1 : w2.drew.cell? ⟨c1, 0, none⟩ = some (.string (bs (kindT x))) := cell_of_block hc1 0
    have k2 : w2.drew.cell? ⟨c2, 0, none⟩ = some (.string (bs (kindT y))) := cell_of_block hc2 0
    have k3 : w2.drew.drew.cell? ⟨c1, 1, none⟩ = some (.slice ad1 vs1.length cap1) := cell_of_block hc1 1
    have k1' : w2.cell? ⟨c1, 0, none⟩ = some (.string (bs (kindT x))) := cell_of_block hc1 0
    have k2' : w2.cell? ⟨c2, 0, none⟩ = some (.string (bs (kindT y))) := cell_of_block hc2 0
    have k3' : w2.cell? ⟨c1, 1, none⟩ = some (.slice ad1 vs1.length cap1) := cell_of_block hc1 1
    have hfew := kids_few x
    have hlen : vs1.length ≤ 2 := by rw [hkids1.1]; exact hfew
    have hak := alike_kids (a := la) (b := lb) hxf hyf to fr
    have HAK := Lib.hid hak
    have HC1 := Lib.hid hc1
    have HC2 := Lib.hid hc2
    have HR1 := Lib.hid hrow1
    have HR2 := Lib.hid hrow2
    have HKD1 := Lib.hid hkids1
    have HKD2 := Lib.hid hkids2
    clear hc1 hc2 hrow1 hrow2 hkids1 hkids2 hak hfew hry
    by_cases hk : kindT x = kindT y
    · have hkt : ((bs (kindT x)).toList == (bs (kindT y)).toList) = true := by rw [hk]; exact beq_self_eq_true _
      have HKL := Lib.hid (kids_sameA hk)
      have HAT := Lib.hid (show alikeT la lb x y to fr = alikeK la lb (kidsT x) (kidsT y) to fr by rw [HAK.out, if_pos hk])
      clear hk
      go_wp2_with fail
      go_region
      all_goals
        go_wp2_with fail
        go_region
        all_goals
          go_wp2_with fail
          go_loopg [146] vs1.length (fun gg i wx => ∃ (j : Nat) (toj frj : List (Nat × Nat)), gg = vs1.length - j ∧ i = .int .i64 j ∧ j ≤ vs1.length ∧ KV [tm, fm] w2 wx ∧ AlkSt sab sbb tbx fbx mbx tm fm (.iface tt1 tp1) (.iface tt2 tp2) ma mb la lb vb.length toj frj wx ∧ alikeK la lb (kidsT x) (kidsT y) to fr = alikeK la lb ((kidsT x).drop j) ((kidsT y).drop j) toj frj)
          case atStart => exact ⟨0, to, fr, rfl, rfl, by omega, (Keeps.refl [] w2).drew.drew.kv0.mono (by simp), H2.out.kv (Keeps.refl [] w2).drew.drew.kv0, rfl⟩
          case round =>
            obtain ⟨j, toj, frj, hg, rfl, hj, hkx, hax, hmx⟩ := hrel
            have HG := Lib.hid hg
            have HKX := Lib.hid hkx
            have HAX := Lib.hid hax
            have HMX := Lib.hid hmx
            have x0 : wr.cell? ⟨mbx, 0, none⟩ = some (.func (.func 184) #[] #[.pointer (some ⟨sab, 0, none⟩), .pointer (some ⟨sbb, 0, none⟩), .pointer (some ⟨tbx, 0, none⟩), .pointer (some ⟨fbx, 0, none⟩), .pointer (some ⟨mbx, 0, none⟩)]) := cell_of_block hax.mx 0
            have f1 : wr.cell? ⟨c1, 1, none⟩ = some (.slice ad1 vs1.length cap1) := cell_of_block (hkx.con _ _ _ _ HC1.out (.inl rfl)) 1
            have f2 : wr.cell? ⟨c2, 1, none⟩ = some (.slice ad2 vs2.length cap2) := cell_of_block (hkx.con _ _ _ _ HC2.out (.inl rfl)) 1
            clear hg hkx hax hmx k1 k2 k3 k1' k2' k3' hta hta2 hta3 htb htb2 htb3 hkt
            by_cases hlt : j < vs1.length
            · have hja : j < (kidsT x).length := by rw [← HKD1.out.1]; exact hlt
              have hjb : j < (kidsT y).length := by rw [← HKL.out]; exact hja
              have hjvb : j < vs2.length := by rw [HKD2.out.1]; exact hjb
              obtain ⟨xa, hxa⟩ : ∃ xa, (kidsT x)[j]? = some xa := ⟨_, List.getElem?_eq_getElem hja⟩
              obtain ⟨xb', hxb⟩ : ∃ xb, (kidsT y)[j]? = some xb := ⟨_, List.getElem?_eq_getElem hjb⟩
              obtain ⟨ya, hya⟩ : ∃ va, vs1[j]? = some va := ⟨_, List.getElem?_eq_getElem hlt⟩
              obtain ⟨yb, hyb⟩ : ∃ va, vs2[j]? = some va := ⟨_, List.getElem?_eq_getElem hjvb⟩
              have hkd : KV [] wr wr.drew := ((Keeps.refl [] wr).drew).kv0
              have htya := (HKX.out.trans0 hkd).te (HKD1.out.2 j xa ya hxa hya)
              have htyb := (HKX.out.trans0 hkd).te (HKD2.out.2 j xb' yb hxb hyb)
              obtain ⟨g1, rfl, hcell1⟩ := (HKX.out.k0.rowC HR1.out).cell hya
              obtain ⟨g2, rfl, hcell2⟩ := (HKX.out.k0.rowC HR2.out).cell hyb
              have hsa := kids_lt (List.mem_of_getElem? hxa)
              have hst := alikeK_step (a := la) (b := lb) hxa hxb toj frj
              have HCALL := Lib.hid (HIH.out xa (by have := HSZ.out; omega) xb' toj frj wr.drew ya yb htya htyb (HAX.out.kv hkd))
              have HST := Lib.hid (HMX.out.trans hst)
              have hdl : decide ((j : Int) < (vs1.length : Int)) = true := by simpa using hlt
              obtain ⟨ta, pa, rfl⟩ : ∃ ut up, ya = .iface ut up := by rcases htya.shape with ⟨_, rfl⟩ | ⟨_, rfl⟩ <;> exact ⟨_, _, rfl⟩
              obtain ⟨tb, pb, rfl⟩ : ∃ ut up, yb = .iface ut up := by rcases htyb.shape with ⟨_, rfl⟩ | ⟨_, rfl⟩ <;> exact ⟨_, _, rfl⟩
              have HYA := Lib.hid hya
              have HYB := Lib.hid hyb
              have HKDD := Lib.hid hkd
              clear htya htyb hya hyb hxa hxb hst hkd
              have HHC1 := Lib.hid hcell1
              have HHC2 := Lib.hid hcell2
              go_wp2_with fail
              go_region_held3 (fun W => W.cell? ⟨mbx, 0, none⟩ = some (.func (.func 184) #[] #[.pointer (some ⟨sab, 0, none⟩), .pointer (some ⟨sbb, 0, none⟩), .pointer (some ⟨tbx, 0, none⟩), .pointer (some ⟨fbx, 0, none⟩), .pointer (some ⟨mbx, 0, none⟩)]) ∧ W.cell? ⟨c1, 1, none⟩ = some (.slice (some ⟨g1, 0, none⟩) vs1.length cap1) ∧ W.cell? ⟨c2, 1, none⟩ = some (.slice (some ⟨g2, 0, none⟩) vs2.length cap2) ∧ W.cell? ⟨g1, j, none⟩ = some (.iface ta pa) ∧ W.cell? ⟨g2, j, none⟩ = some (.iface tb pb))
                (first | exact ⟨x0, f1, f2, hcell1, hcell2⟩ | exact ⟨y0, y1, y2, y3, y4⟩)
                (first | (go_at_call 184; refine HCALL.out.mono ?_; rintro e w3 hpost
                          obtain ⟨hk3, bc, rfl, hct, hcf⟩ := hpost.parts
                          have HK3 := Lib.hid ((HKX.out.trans0 HKDD.out).trans hk3 (fun _ h => .inl h))
                          have HCT := Lib.hid hct
                          have HCF := Lib.hid hcf
                          have y0 : w3.cell? ⟨mbx, 0, none⟩ = some (.func (.func 184) #[] #[.pointer (some ⟨sab, 0, none⟩), .pointer (some ⟨sbb, 0, none⟩), .pointer (some ⟨tbx, 0, none⟩), .pointer (some ⟨fbx, 0, none⟩), .pointer (some ⟨mbx, 0, none⟩)]) := cell_of_block (H2.out.box HK3.out H2.out.mx (by decide)) 0
                          have y1 : w3.cell? ⟨c1, 1, none⟩ = some (.slice (some ⟨g1, 0, none⟩) vs1.length cap1) := cell_of_block (HK3.out.con _ _ _ _ HC1.out (.inl rfl)) 1
                          have y2 : w3.cell? ⟨c2, 1, none⟩ = some (.slice (some ⟨g2, 0, none⟩) vs2.length cap2) := cell_of_block (HK3.out.con _ _ _ _ HC2.out (.inl rfl)) 1
                          have y3 : w3.cell? ⟨g1, j, none⟩ = some (.iface ta pa) := (HK3.out.k0.rowC HR1.out).at' HYA.out
                          have y4 : w3.cell? ⟨g2, j, none⟩ = some (.iface tb pb) := (HK3.out.k0.rowC HR2.out).at' HYB.out
                          clear hpost hk3 hct hcf))
              all_goals
                cases bc with
                | true =>
                  go_wp2_with fail
                  obtain ⟨p', hp', hst'⟩ := HCT.out (by simp)
                  go_roundg (vs1.length - (j + 1))
                  case measure => have := HG.out; omega
                  case rel => exact ⟨j + 1, p'.1, p'.2, rfl, by go_num, by omega, HK3.out, hst', by rw [HST.out, hp']; rfl⟩
                | false =>
                  go_wp2_with fail
                  go_ret
                  refine ⟨(HK2.out.mono (by simp)).trans HK3.out (fun _ h => .inl h), ?_⟩
                  rw [HAT.out, HST.out, HCF.out (by simp)]
                  exact rfl
            · have hdl : decide ((j : Int) < (vs1.length : Int)) = false := by simpa using hlt
              have hjl : (kidsT x).drop j = [] := List.drop_of_length_le (by rw [← HKD1.out.1]; omega)
              have hjl2 : (kidsT y).drop j = [] := List.drop_of_length_le (by rw [← HKL.out, ← HKD1.out.1]; omega)
              have hm := HMX.out
              rw [hjl, hjl2, alikeK_nil] at hm
              have HM := Lib.hid hm
              clear hjl hjl2 hm
              go_wp2_with fail
              go_ret
              refine ⟨(HK2.out.mono (by simp)).trans HKX.out (fun _ h => .inl h), ?_⟩
              rw [HAT.out, HM.out]
              exact ⟨rfl, HAX.out⟩
    · have hkt : ((bs (kindT x)).toList == (bs (kindT y)).toList) = false := by
        rw [ByteArray.toList_eq, ByteArray.toList_eq, bs_data, bs_data]
        exact beq_eq_false_iff_ne.2 hk
      have HAT := Lib.hid (show alikeT la lb x y to fr = none by rw [HAK.out, if_neg hk])
      clear hk
      go_wp2_with fail
      go_region
      all_goals
        go_wp2_with fail
        go_region
        all_goals
          go_wp2_with fail
          go_ret
          refine ⟨(HK2.out.trans0 (by repeat (first | exact (KV.refl [] w2) | exact ((Keeps.refl [] w2).drew.kv0) | exact ((Keeps.refl [] w2).drew.drew.kv0)))).mono (by simp), ?_⟩
          rw [HAT.out]
          exact rfl

theorem seven_alloc (w : World) (o0 o1 o2 o3 o4 o5 o6 : Obj) : (((((((w.alloc o0).alloc o1).alloc o2).alloc o3).alloc o4).alloc o5).alloc o6).heap[w.heap.size]? = some o0 ∧ (((((((w.alloc o0).alloc o1).alloc o2).alloc o3).alloc o4).alloc o5).alloc o6).heap[w.heap.size + 1]? = some o1 ∧
    (((((((w.alloc o0).alloc o1).alloc o2).alloc o3).alloc o4).alloc o5).alloc o6).heap[w.heap.size + 1 + 1]? = some o2 ∧ (((((((w.alloc o0).alloc o1).alloc o2).alloc o3).alloc o4).alloc o5).alloc o6).heap[w.heap.size + 1 + 1 + 1]? = some o3 ∧
    (((((((w.alloc o0).alloc o1).alloc o2).alloc o3).alloc o4).alloc o5).alloc o6).heap[w.heap.size + 1 + 1 + 1 + 1]? = some o4 ∧ (((((((w.alloc o0).alloc o1).alloc o2).alloc o3).alloc o4).alloc o5).alloc o6).heap[w.heap.size + 1 + 1 + 1 + 1 + 1]? = some o5 ∧
    (((((((w.alloc o0).alloc o1).alloc o2).alloc o3).alloc o4).alloc o5).alloc o6).heap[w.heap.size + 1 + 1 + 1 + 1 + 1 + 1]? = some o6 := by
  have s : ∀ (u : World) (o : Obj), (u.alloc o).heap.size = u.heap.size + 1 := fun u o => by simp
  refine ⟨?_, ?_, ?_, ?_, ?_, ?_, ?_⟩
  · exact block_alloc_old (block_alloc_old (block_alloc_old (block_alloc_old (block_alloc_old (block_alloc_old (block_alloc _ _))))))
  · have h := block_alloc_old (o' := o6) (block_alloc_old (o' := o5) (block_alloc_old (o' := o4) (block_alloc_old (o' := o3) (block_alloc_old (o' := o2) (block_alloc (w.alloc o0) o1)))))
    simpa only [s] using h
  · have h := block_alloc_old (o' := o6) (block_alloc_old (o' := o5) (block_alloc_old (o' := o4) (block_alloc_old (o' := o3) (block_alloc ((w.alloc o0).alloc o1) o2))))
    simpa only [s] using h
  · have h := block_alloc_old (o' := o6) (block_alloc_old (o' := o5) (block_alloc_old (o' := o4) (block_alloc (((w.alloc o0).alloc o1).alloc o2) o3)))
    simpa only [s] using h
  · have h := block_alloc_old (o' := o6) (block_alloc_old (o' := o5) (block_alloc ((((w.alloc o0).alloc o1).alloc o2).alloc o3) o4))
    simpa only [s] using h
  · have h := block_alloc_old (o' := o6) (block_alloc (((((w.alloc o0).alloc o1).alloc o2).alloc o3).alloc o4) o5)
    simpa only [s] using h
  · have h := block_alloc ((((((w.alloc o0).alloc o1).alloc o2).alloc o3).alloc o4).alloc o5) o6
    simpa only [s] using h
theorem seven_kv [Inhabited Low] (w : World) (o0 o1 o2 o3 o4 o5 o6 : Obj) : KV [] w (((((((w.alloc o0).alloc o1).alloc o2).alloc o3).alloc o4).alloc o5).alloc o6) :=
  (((((((Keeps.refl [] w).alloc o0).alloc o1).alloc o2).alloc o3).alloc o4).alloc o5).alloc o6 |>.kv0
set_option maxRecDepth 100000 in
set_option maxHeartbeats 4000000 in
theorem alike_any [Inhabited Low] [Inhabited Bar] {vb : List Nat} {S : Sub} {w : World} {s1 s2 : Sch} {t1 m1 t2 m2 : Value} (hvb : vb.length ≤ 100000) (h1 : SchAt vb S w s1 t1 m1) (h2 : SchAt vb S w s2 t2 m2) :
    Calls Tryz.prog 170 #[.agg #[t1, m1], .agg #[t2, m2]] w fun e w' => e = .returned (.bool (alikeS S s1 s2)) ∧ KV [] w w' := by
  obtain ⟨⟨tt1, tp1, rfl⟩, mm1, rfl⟩ := h1.shape
  obtain ⟨⟨tt2, tp2, rfl⟩, mm2, rfl⟩ := h2.shape
  have hmm := @run_makeMap Tryz.prog
  have hmf : ∀ (fn : Fn) (first cap : Array Value) (w : World), (Instr.makeFunc fn first cap).run Tryz.prog w = .ok (.func fn first cap) w := fun _ _ _ _ => rfl
  have hsf : ∀ (ad : Addr) (fn : Fn) (x y : Array Value) (m : Mode) (W : World), (store ad (.func fn x y) m).run Tryz.prog W = stored Tryz.prog W ad (.func fn x y) m := fun ad fn x y m W => run_store Tryz.prog W ad _ m rfl
  have hm1 : ∀ k, Value.map mm1 = .map (some k) → k < w.heap.size := fun k e => by
    rcases h1.2 with ⟨h, _⟩ | ⟨b, n, h, h'⟩
    · rw [h] at e; cases e
    · rw [h] at e; cases e; obtain ⟨es, cl, ho⟩ := h'.obj; exact lt_of_some ho
  have hm2 : ∀ k, Value.map mm2 = .map (some k) → k < w.heap.size := fun k e => by
    rcases h2.2 with ⟨h, _⟩ | ⟨b, n, h, h'⟩
    · rw [h] at e; cases e
    · rw [h] at e; cases e; obtain ⟨es, cl, ho⟩ := h'.obj; exact lt_of_some ho
  have HM1 := Lib.hid hm1
  have HM2 := Lib.hid hm2
  have H1 := Lib.hid h1
  have H2 := Lib.hid h2
  clear h1 h2 hm1 hm2
  have hcall : ∀ (W : World), W = (((((((w.alloc (.cells #[.iface tt1 tp1, .map mm1] 119)).alloc (.cells #[.iface tt2 tp2, .map mm2] 119)).alloc (.map #[] 0)).alloc (.cells #[.map (some (w.heap.size + 1 + 1))] 225)).alloc (.map #[] 0)).alloc (.cells #[.map (some (w.heap.size + 1 + 1 + 1 + 1))] 225)).alloc
      (.cells #[.func (.func 184) #[] #[.pointer (some ⟨w.heap.size, 0, none⟩), .pointer (some ⟨w.heap.size + 1, 0, none⟩), .pointer (some ⟨w.heap.size + 1 + 1 + 1, 0, none⟩), .pointer (some ⟨w.heap.size + 1 + 1 + 1 + 1 + 1, 0, none⟩), .pointer (some ⟨w.heap.size + 1 + 1 + 1 + 1 + 1 + 1, 0, none⟩)]] 181)) →
      Calls Tryz.prog 184 #[.iface tt1 tp1, .iface tt2 tp2, .pointer (some ⟨w.heap.size, 0, none⟩), .pointer (some ⟨w.heap.size + 1, 0, none⟩), .pointer (some ⟨w.heap.size + 1 + 1 + 1, 0, none⟩), .pointer (some ⟨w.heap.size + 1 + 1 + 1 + 1 + 1, 0, none⟩), .pointer (some ⟨w.heap.size + 1 + 1 + 1 + 1 + 1 + 1, 0, none⟩)] W fun e w' => e = .returned (.bool (alikeS S s1 s2)) ∧ KV [] w w' := by
    intro W hW
    obtain ⟨q0, q1, q2, q3, q4, q5, q6⟩ := seven_alloc w (.cells #[.iface tt1 tp1, .map mm1] 119) (.cells #[.iface tt2 tp2, .map mm2] 119) (.map #[] 0) (.cells #[.map (some (w.heap.size + 1 + 1))] 225) (.map #[] 0) (.cells #[.map (some (w.heap.size + 1 + 1 + 1 + 1))] 225)
      (.cells #[.func (.func 184) #[] #[.pointer (some ⟨w.heap.size, 0, none⟩), .pointer (some ⟨w.heap.size + 1, 0, none⟩), .pointer (some ⟨w.heap.size + 1 + 1 + 1, 0, none⟩), .pointer (some ⟨w.heap.size + 1 + 1 + 1 + 1 + 1, 0, none⟩), .pointer (some ⟨w.heap.size + 1 + 1 + 1 + 1 + 1 + 1, 0, none⟩)]] 181)
    have hk := seven_kv w (.cells #[.iface tt1 tp1, .map mm1] 119) (.cells #[.iface tt2 tp2, .map mm2] 119) (.map #[] 0) (.cells #[.map (some (w.heap.size + 1 + 1))] 225) (.map #[] 0) (.cells #[.map (some (w.heap.size + 1 + 1 + 1 + 1))] 225)
      (.cells #[.func (.func 184) #[] #[.pointer (some ⟨w.heap.size, 0, none⟩), .pointer (some ⟨w.heap.size + 1, 0, none⟩), .pointer (some ⟨w.heap.size + 1 + 1 + 1, 0, none⟩), .pointer (some ⟨w.heap.size + 1 + 1 + 1 + 1 + 1, 0, none⟩), .pointer (some ⟨w.heap.size + 1 + 1 + 1 + 1 + 1 + 1, 0, none⟩)]] 181)
    rw [← hW] at q0 q1 q2 q3 q4 q5 q6 hk
    have im : ∀ b : Nat, W.heap[b]? = some (.map #[] 0) → IMapE W b 0 fun v => (([] : List (Nat × Nat)).lookup v).getD 0 := fun b hb => by
      obtain ⟨D, ⟨es, cl, h1, h2⟩, h3⟩ := IMapE.made w
      have h1' := h1.symm.trans (block_alloc w (.map #[] 0))
      simp only [Option.some.injEq, Obj.map.injEq] at h1'
      obtain ⟨rfl, rfl⟩ := h1'
      exact ⟨D, ⟨_, _, hb, h2⟩, h3⟩
    have hst : AlkSt w.heap.size (w.heap.size + 1) (w.heap.size + 1 + 1 + 1) (w.heap.size + 1 + 1 + 1 + 1 + 1) (w.heap.size + 1 + 1 + 1 + 1 + 1 + 1) (w.heap.size + 1 + 1) (w.heap.size + 1 + 1 + 1 + 1) (.iface tt1 tp1) (.iface tt2 tp2) (.map mm1) (.map mm2) s1.all s2.all vb.length [] [] W :=
      ⟨q0, q1, q3, q5, q6, set_side H1.out.2 hk (by simp), set_side H2.out.2 hk (by simp), fun k e => by have := HM1.out k e; omega, fun k e => by have := HM2.out k e; omega, by omega, ⟨0, by simp, im _ q2⟩, ⟨0, by simp, im _ q4⟩, ⟨by simp, by simp⟩, ⟨by simp, by simp⟩⟩
    refine (alk_any ⟨_, _, rfl⟩ ⟨_, _, rfl⟩ hvb (s1.t.ap S).size (s1.t.ap S) (Nat.le_refl _) (s2.t.ap S) [] [] W (.iface tt1 tp1) (.iface tt2 tp2) (hk.te H1.out.1) (hk.te H2.out.1) hst).mono ?_
    intro e w' hp
    obtain ⟨hk3, bc, rfl, hct, hcf⟩ := hp.parts
    refine ⟨?_, hk.trans hk3 (fun m hm => .inr (by simp at hm; omega))⟩
    cases bc with
    | true =>
      obtain ⟨p, hp, _⟩ := hct rfl
      simp only [alikeS, hp, Option.isSome_some]
    | false =>
      have := hcf rfl
      simp only [alikeS, this, Option.isSome_none]
  have HCALL := Lib.hid (hcall _ rfl)
  clear hcall
  go_enter Tryz.func170, Tryz.ntmps170
  go_wp2_with fail
  refine HCALL.out.mono ?_
  rintro e w2 ⟨rfl, hk⟩
  go_wp2
  go_ret
  exact ⟨rfl, hk⟩
end Go.Proofs.YtpbplpnifjbkoabGreatDoor

/-
  Maps from names to types' texts, as functions.
-/
import Derived.Test.YtpbplpnifjbkoabGreatDoorTred
import Derived.Sort.KeysCollected
import Derived.Test.YtpbplpnifjbkoabGreatDoorPlainShow
import Derived.Test.YtpbplpnifjbkoabGreatDoorTval
import Derived.Test.YtpbplpnifjbkoabGreatDoorPaRec
import Derived.Test.YtpbplpnifjbkoabGreatDoorIter
namespace Go.Proofs.YtpbplpnifjbkoabGreatDoor
open Go.RowKit
open Go.Maps (Keyed string_keyed)

theorem uTm : Tryz.prog.underlying 58 = some (.map 9 70) := by kernel_rfl
theorem zTm (w : World) : (zeroValue 70).run Tryz.prog w = .ok (.agg #[.string ⟨#[]⟩]) w := by kernel_rfl
abbrev tyV (t : Bytes) : Value := .agg #[.string (bs t)]
/-- How such an element reads. -/
def tyElem : Value → Option (DataW Unit × List MemPlace)
  | .agg ⟨[.string s]⟩ => some (.lit (.string s.data.toList), [])
  | _ => none
theorem tyElem_of (t : Bytes) : tyElem (tyV t) = some (.lit (.string t), []) := by simp [tyElem, bs_data]
theorem tyElem_inv {v : Value} {t : Bytes} {ps : List MemPlace} (h : tyElem v = some (.lit (.string t), ps)) : v = tyV t := by
  unfold tyElem at h
  split at h
  · rename_i s
    simp only [Option.some.injEq, Prod.mk.injEq, DataW.lit.injEq, Lit.string.injEq] at h
    rw [← h.1]
    show Value.agg #[.string s] = .agg #[.string (bs s.data.toList)]
    rw [bs_of]
  · cases h
/-- Block b is a map of at most n entries that sends names to texts as f does. -/
def TMap (w : World) (b n : Nat) (f : Bytes → Option Bytes) : Prop :=
  ∃ D, w.ownsMap Tryz.prog 9 tyElem b n D ∧ ∀ x : Bytes, Maps.has D (.string x) = (f x).isSome ∧ D.atKey (.string x) (.lit (.string [])) = .lit (.string ((f x).getD []))
theorem TMap.made (w : World) : TMap (w.alloc (.map #[] 0)) w.heap.size 0 fun _ => none := ⟨_, World.ownsMap_made _ _ _ _, fun _x => ⟨rfl, rfl⟩⟩
theorem TMap.lt {w : World} {b n : Nat} {f : Bytes → Option Bytes} (h : TMap w b n f) : b < w.heap.size := by obtain ⟨D, h, _⟩ := h; exact h.lt
theorem TMap.same {w w' : World} {b n : Nat} {f : Bytes → Option Bytes} (h : TMap w b n f) (hb : w'.heap[b]? = w.heap[b]?) : TMap w' b n f := by
  obtain ⟨D, ⟨es, clock, h1, h2⟩, h3⟩ := h
  exact ⟨D, ⟨es, clock, hb.trans h1, h2⟩, h3⟩
theorem TMap.obj {w : World} {b n : Nat} {f : Bytes → Option Bytes} (h : TMap w b n f) : ∃ es cl, w.heap[b]? = some (.map es cl) := by
  obtain ⟨D, ⟨es, clock, h1, h2⟩, h3⟩ := h
  exact ⟨es, clock, h1⟩
theorem TMap.look {w : World} {b n : Nat} {f : Bytes → Option Bytes} (h : TMap w b n f) (s : ByteArray) (hs : s.size ≤ maxLen) :
    (Instr.lookup 58 (.map (some b)) (.string s) true).run Tryz.prog w = .ok (.tuple #[tyV ((f s.data.toList).getD []), .bool (f s.data.toList).isSome]) w := by
  obtain ⟨D, h1, h2⟩ := h
  obtain ⟨v, ps, hrun, hv⟩ := h1.look_ok lawString uTm (zTm w) (zd := .lit (.string [])) (zp := []) (tyElem_of []) (WideMaps.keyOf_string_mk uString hs)
  rw [(h2 _).2] at hv
  rw [(h2 _).1, tyElem_inv hv] at hrun
  exact hrun
theorem TMap.look1 {w : World} {b n : Nat} {f : Bytes → Option Bytes} (h : TMap w b n f) (s : ByteArray) (hs : s.size ≤ maxLen) :
    (Instr.lookup 58 (.map (some b)) (.string s) false).run Tryz.prog w = .ok (tyV ((f s.data.toList).getD [])) w := by
  obtain ⟨D, h1, h2⟩ := h
  obtain ⟨v, ps, hrun, hv⟩ := h1.lookup lawString uTm (zTm w) (zd := .lit (.string [])) (zp := []) (tyElem_of []) (WideMaps.keyOf_string_mk uString hs)
  rw [(h2 _).2] at hv
  rw [tyElem_inv hv] at hrun
  exact hrun
theorem TMap.store {w : World} {b n : Nat} {f : Bytes → Option Bytes} (h : TMap w b n f) (hn : n < maxLen) (s : ByteArray) (hs : s.size ≤ maxLen) (t : Bytes) :
    ∃ w', (Instr.mapUpdate 58 (.map (some b)) (.string s) (tyV t)).run Tryz.prog w = .ok () w' ∧ TMap w' b (n + 1) (fun y => if y = s.data.toList then some t else f y) ∧ w.grownBy w' (some b) := by
  obtain ⟨D, h1, h2⟩ := h
  obtain ⟨w', hrun, h3, h4⟩ := h1.update lawString uTm hn (key := .string s) (WideMaps.keyOf_string_mk uString hs) (tyElem_of t)
  refine ⟨w', hrun, ⟨_, h3, fun x => ?_⟩, h4⟩
  by_cases hx : x = s.data.toList
  · subst hx
    simp only [if_true]
    rw [Maps.atKey_put_same h1.isMap (by simp [WideAt.IsKeyLit]), Maps.has_put_same h1.isMap (by simp [WideAt.IsKeyLit])]
    exact ⟨rfl, rfl⟩
  · simp only [hx, if_false]
    rw [Maps.atKey_put_other (by simpa using hx), Maps.has_put_other (by simpa using hx)]
    exact h2 x
/-- The keys of such a map, where they are known. -/
theorem TMap.keys {w : World} {b n : Nat} {f : Bytes → Option Bytes} (h : TMap w b n f) {ns : List Bytes} (hnd : ns.Nodup) (hm : ∀ x, x ∈ ns ↔ (f x).isSome = true) :
    ∃ D, w.ownsMap Tryz.prog 9 tyElem b n D ∧ ns.Perm (strKeys D) ∧ Maps.size D = ns.length := by
  obtain ⟨D, h1, h2⟩ := h
  obtain ⟨es, rfl, hks⟩ := h1.keysOf
  obtain ⟨es', he, hp⟩ := h1.tidy lawString
  cases he
  have hperm : ns.Perm (strKeys (.map es)) := perm_strKeys hp (fun p hp' => by
    obtain ⟨key, hk⟩ := hks p hp'
    obtain ⟨x, _, hx, _⟩ := Maps.keyOf_str uString hk
    exact ⟨x, hx⟩) hnd (fun x => by rw [hm x, (h2 x).1])
  have hl := hperm.length_eq
  refine ⟨_, h1, hperm, ?_⟩
  rw [hl]
  simp [strKeys, Maps.size]
end Go.Proofs.YtpbplpnifjbkoabGreatDoor

namespace Go.Proofs.YtpbplpnifjbkoabGreatDoor
open Go.RowKit

/-- The names of the general type, sorted. -/
def ksOf (gs : List Bytes) : List Bytes := gs.mergeSort (fun x y => decide (x ≤ y))
def sV (x : Bytes) : Value := .string (bs x)

theorem errAt_keeps {a : Nat → Addr} {w w' : World} {f : Nat × Nat} {v : Value} (h : ErrAt a w f v) (hk : Keeps [] w w') : ErrAt a w' f v := by
  rcases h with h | ⟨h2, c, hv, hc⟩
  · exact .inl h
  · exact .inr ⟨h2, c, hv, hk.some hc (by simp)⟩

theorem ownsRow_same {w w' : World} {base : Nat} {e : TypeId} {size : Nat} {v : Value} {n : Nat} {xs : List Value} (h : w.ownsRow base e size v n xs) (hk : ∀ k, v.ownBlock = some k → w'.heap[k]? = w.heap[k]?) : w'.ownsRow base e size v n xs :=
  ⟨h.1, h.2.imp id fun ⟨g, cap, cur, h1, h2, h3, h4⟩ => ⟨g, cap, cur, h1, h2, (hk g (by rw [h1]; rfl)).trans h3, h4⟩⟩
theorem fieldTy (t : Bytes) (w : World) : (Instr.field 70 (tyV t) 0).run Tryz.prog w = .ok (.string (bs t)) w := by kernel_rfl
/-- A row of texts, no block of it below lo. -/
def SRow (w : World) (lo : Nat) (v : Value) (xs : List Bytes) : Prop := ∃ ad cap, v = .slice ad xs.length cap ∧ ∀ j x, xs[j]? = some x → ∃ g, lo ≤ g ∧ ad = some ⟨g, 0, none⟩ ∧ w.cell? ⟨g, j, none⟩ = some (sV x)
theorem SRow.keep {w w' : World} {lo : Nat} {v : Value} {xs : List Bytes} {M : List Nat} (h : SRow w lo v xs) (hk : Keeps M w w') (hM : ∀ m ∈ M, m < lo) : SRow w' lo v xs := by
  obtain ⟨ad, cap, hv, hc⟩ := h
  exact ⟨ad, cap, hv, fun j x hj => by obtain ⟨g, hl, hg, hcell⟩ := hc j x hj; exact ⟨g, hl, hg, hk.cellSome hcell (fun hm => by have := hM _ hm; simp at this; omega)⟩⟩
theorem SRow.down {w : World} {lo lo' : Nat} {v : Value} {xs : List Bytes} (h : SRow w lo v xs) (hl : lo' ≤ lo) : SRow w lo' v xs := by
  obtain ⟨ad, cap, hv, hc⟩ := h
  exact ⟨ad, cap, hv, fun j x hj => by obtain ⟨g, h1, hg, hcell⟩ := hc j x hj; exact ⟨g, by omega, hg, hcell⟩⟩
theorem SRow.of_owns {w : World} {base : Nat} {v : Value} {n : Nat} {xs : List Bytes} (h : w.ownsRow base 9 1 v n (xs.map sV)) (hn : n = xs.length) : SRow w base v xs := by
  subst hn
  obtain ⟨ad, cap, rfl, hc⟩ := ownsRow_shape h
  refine ⟨ad, cap, rfl, fun j x hj => ?_⟩
  obtain ⟨g, hg, hcell⟩ := hc j (List.getElem?_eq_some_iff.1 hj).1
  exact ⟨g, (h.lt g (by rw [hg]; rfl)).1, hg, by rw [hcell, List.getElem?_map, hj]; rfl⟩

end Go.Proofs.YtpbplpnifjbkoabGreatDoor

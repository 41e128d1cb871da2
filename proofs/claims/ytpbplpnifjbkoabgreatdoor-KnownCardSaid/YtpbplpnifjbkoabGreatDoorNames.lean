/-
  plain.Names and the sentinels as they lie ('Gl').
-/
import Derived.Test.YtpbplpnifjbkoabGreatDoorIs
import Derived.Test.YtpbplpnifjbkoabGreatDoorAsx
import Derived.Test.YtpbplpnifjbkoabGreatDoorBase
import Derived.Deep.LoopGhost
import Derived.Lib.Hide
namespace Go.Proofs.YtpbplpnifjbkoabGreatDoor
open Go.RowKit

abbrev sent (a : Nat → Addr) (k : Nat) : Value := .iface 354 (.pointer (some (a k)))

def gIdx : List Nat := [1, 2, 0, 3, 4, 5, 6, 7, 8]

/-- The eight errors of package api and the handle of the type 'error', all below block B. -/
structure Gl (a : Nat → Addr) (B : Nat) (w : World) : Prop where
  v0 : w.cell? ⟨1, 0, none⟩ = some (sent a 0)
  v1 : w.cell? ⟨2, 0, none⟩ = some (sent a 1)
  v2 : w.cell? ⟨0, 0, none⟩ = some (sent a 2)
  v3 : w.cell? ⟨3, 0, none⟩ = some (sent a 3)
  v4 : w.cell? ⟨4, 0, none⟩ = some (sent a 4)
  v5 : w.cell? ⟨5, 0, none⟩ = some (sent a 5)
  v6 : w.cell? ⟨6, 0, none⟩ = some (sent a 6)
  v7 : w.cell? ⟨7, 0, none⟩ = some (sent a 7)
  ty : w.cell? ⟨8, 0, none⟩ = some (.iface 286 (.agg #[.pointer (some ⟨13, 61, none⟩)]))
  lo : ∀ g ∈ gIdx, g < B
  hi : B ≤ w.heap.size
  low : ∀ k, k < 8 → (a k).block < B
  err : ∀ k, k < 8 → ∃ c t, w.heap[(a k).block]? = some (.cells c t (0, 0))
  ne : ∀ i j, i < 8 → j < 8 → i ≠ j → a i ≠ a j

theorem Gl.keep {a : Nat → Addr} {B : Nat} {w w' : World} (h : Gl a B w) (hs : B ≤ w'.heap.size) (hk : ∀ k, k < B → w'.heap[k]? = w.heap[k]?) : Gl a B w' := by
  have lo := h.lo
  have hc : ∀ g ∈ gIdx, w'.cell? ⟨g, 0, none⟩ = w.cell? ⟨g, 0, none⟩ := fun g hg => World.cell?_of_block (hk g (lo g hg))
  exact ⟨(hc _ (by decide)).trans h.v0, (hc _ (by decide)).trans h.v1, (hc _ (by decide)).trans h.v2, (hc _ (by decide)).trans h.v3, (hc _ (by decide)).trans h.v4, (hc _ (by decide)).trans h.v5,
    (hc _ (by decide)).trans h.v6, (hc _ (by decide)).trans h.v7, (hc _ (by decide)).trans h.ty, lo, hs, h.low, fun k hk8 => by rw [hk _ (h.low k hk8)]; exact h.err k hk8, h.ne⟩
theorem Gl.below {a : Nat → Addr} {B : Nat} {w w' : World} (h : Gl a B w) (hb : Below B w w') : Gl a B w' := h.keep (Nat.le_trans h.hi hb.size) hb.block

theorem is_ij {a : Nat → Addr} {B : Nat} (w : World) (h : Gl a B w) (i j : Nat) (hi : i < 8) (hj : j < 8) :
    Calls Tryz.prog 60 #[sent a i, sent a j] w fun e w' => e = .returned (.bool (decide (i = j))) ∧ w = w' := by
  by_cases hij : i = j
  · subst hij
    exact (is_same (a i) w).mono fun e w' ⟨he, hw⟩ => ⟨by rw [he]; simp, hw⟩
  · obtain ⟨ci, ti, h1⟩ := h.err i hi
    obtain ⟨cj, tj, h2⟩ := h.err j hj
    exact (is_other (a i) (a j) ci cj ti tj w (h.ne i j hi hj hij) h1 h2).mono fun e w' ⟨he, hw⟩ => ⟨by rw [he]; simp [hij], hw⟩

theorem is_env_ij {a : Nat → Addr} {B : Nat} (w : World) (h : Gl a B w) (b : Nat) (i j : Nat) (hi : i < 8) (hj : j < 8) (h1 : w.cell? ⟨b, 1, none⟩ = some (sent a i)) :
    Calls Tryz.prog 60 #[.iface 137 (.pointer (some ⟨b, 0, none⟩)), sent a j] w fun e w' => e = .returned (.bool (decide (i = j))) ∧ w = w' := by
  by_cases hij : i = j
  · subst hij
    exact (is_env_same b 0 (a i) w h1).mono fun e w' ⟨he, hw⟩ => ⟨by rw [he]; simp, hw⟩
  · obtain ⟨ci, ti, hb1⟩ := h.err i hi
    obtain ⟨cj, tj, hb2⟩ := h.err j hj
    exact (is_env_other b 0 (a j) (a i) ci cj ti tj w h1 (h.ne i j hi hj hij) hb1 hb2).mono fun e w' ⟨he, hw⟩ => ⟨by rw [he]; simp [hij], hw⟩

end Go.Proofs.YtpbplpnifjbkoabGreatDoor

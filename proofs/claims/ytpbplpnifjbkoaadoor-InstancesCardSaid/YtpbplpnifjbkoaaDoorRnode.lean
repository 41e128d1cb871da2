/-
  The document's atom in brackets.
-/
import Derived.Test.YtpbplpnifjbkoaaDoorRref
import Derived.Deep.RegionHeld3
import Derived.Deep.AppendLies
namespace Go.Proofs.YtpbplpnifjbkoaaDoor
open Go.RowKit

def RExpIH (r n : Nat) : Prop := ∀ ts w res, RC r ts (-1) w → pExp n ts = some res → Calls Tryd.prog 25 #[.pointer (some ⟨r, 0, none⟩)] w (RPost r w id res)
def RAtomIH (r n : Nat) : Prop := ∀ ts w res, RC r ts (-1) w → pAtom n ts = some res → Calls Tryd.prog 51 #[.pointer (some ⟨r, 0, none⟩)] w (RPost r w id res)

set_option maxRecDepth 100000 in
set_option maxHeartbeats 2000000 in
/-- Where a bracket is wanted and does not come. -/
theorem ratom_no {r n : Nat} {ts : List Tok} {w : World} (h : RC r ts (-1) w) (h1 : headKind ts ≠ .name) (h2 : headKind ts ≠ .num) (h3 : headKind ts ≠ .lpar) (res : Except Nat (Exp × List Tok)) (hres : pAtom (n + 1) ts = some res) :
    Calls Tryd.prog 51 #[.pointer (some ⟨r, 0, none⟩)] w (RPost r w id res) := by
  have HC := Lib.hid h
  obtain rfl : res = .error (headPos ts) := by
    unfold pAtom at hres
    simp only [h1, h2, if_false, want, h3, Res.bind] at hres
    simpa using hres.symm
  obtain ⟨g, n', cap, kk, x, c0, c1, c2, hlt, t0, t1, hx, t2, hn⟩ := h.cells
  have hr : r < w.heap.size := lt_of_cell c0
  have hg : g < w.heap.size := lt_of_cell t0
  have H1 := Lib.hid h1
  have H2 := Lib.hid h2
  have H3 := Lib.hid h3
  clear h hx hres h1 h2 h3
  go_enter Tryd.func51, Tryd.ntmps51
  go_wp2_with fail
  go_region
  clear c0 c1 c2 hlt t0 t1 t2 hr hg
  have K0 := Lib.hid (show Keeps [] w (w.alloc (.cells #[.string (bs (rstr (headKind ts))), .string (bs x), .int .i64 (headPos ts)] 122)).drew from ((Keeps.refl [] w).alloc _).drew)
  go_wp2_with fail
  refine (rtake_no (HC.out.keep K0.out) .name _ rfl H1.out).mono ?_
  rintro e w1 ⟨rfl, hk⟩
  have K1 := Lib.hid (K0.out.trans0 hk)
  clear hk
  go_wp2_with fail
  refine (rtake_no (HC.out.keep K1.out) .num _ rfl H2.out).mono ?_
  rintro e w2 ⟨rfl, hk⟩
  have K2 := Lib.hid (K1.out.trans0 hk)
  clear hk
  go_wp2_with fail
  refine (rneed_no (HC.out.keep K2.out) .lpar _ rfl H3.out).mono ?_
  rintro e w3 ⟨⟨y1, rfl⟩, hc, hk⟩
  have HB := Lib.hid hc
  have K3 := Lib.hid (show Keeps [r] w w3 from (K2.out.mono (by simp)).trans hk (fun m hm => Or.inl hm))
  clear hk hc
  go_wp2_with fail
  refine (rexp_bad HB.out).mono ?_
  rintro e w4 ⟨⟨c, rfl⟩, hk⟩
  have K4 := Lib.hid hk
  clear hk
  go_wp2_with fail
  refine (rtake_bad (HB.out.keep K4.out) _).mono ?_
  rintro e w5 ⟨rfl, hk⟩
  have K5 := Lib.hid (K4.out.trans0 hk)
  clear hk
  go_wp2_with fail
  refine (rneed_bad (HB.out.keep K5.out) _).mono ?_
  rintro e w6 ⟨⟨y2, rfl⟩, hk⟩
  have K6 := Lib.hid (K5.out.trans0 hk)
  clear hk
  go_wp2
  refine bodyPost_ret (v := .pointer (some ⟨c, 0, none⟩)) (by simp [results, Tryd.results51, go_sem]) rfl ⟨K3.out.trans0 K6.out, c, rfl, _, HB.out.keep K6.out⟩
end Go.Proofs.YtpbplpnifjbkoaaDoor

namespace Go.Proofs.YtpbplpnifjbkoaaDoor
open Go.RowKit

structure NdSt (b0 : Nat) (op : Bytes) (p : Int) (ns : List Bytes) (vs : List Value) (sn sl : Value) (w : World) : Prop where
  blk : w.heap[b0]? = some (.cells #[.string (bs op), sn, sl, .int .i64 p] 77 (0, 0))
  rn : w.ownsRow (b0 + 1) 9 1 sn ns.length (ns.map fun e => Value.string (bs e))
  rl : w.ownsRow (b0 + 1) 31 1 sl vs.length vs

theorem NdSt.keep {b0 : Nat} {op : Bytes} {p : Int} {ns : List Bytes} {vs : List Value} {sn sl : Value} {w w' : World} {M : List Nat} (h : NdSt b0 op p ns vs sn sl w) (hk : Keeps M w w') (hM : ∀ m ∈ M, m < b0) : NdSt b0 op p ns vs sn sl w' :=
  ⟨hk.some h.blk (fun hm => by have := hM _ hm; omega), ownsRow_keeps h.rn hk (fun m hm => by have := hM m hm; omega), ownsRow_keeps h.rl hk (fun m hm => by have := hM m hm; omega)⟩
theorem NdSt.drew {b0 : Nat} {op : Bytes} {p : Int} {ns : List Bytes} {vs : List Value} {sn sl : Value} {w : World} (h : NdSt b0 op p ns vs sn sl w) : NdSt b0 op p ns vs sn sl w.drew := ⟨h.blk, h.rn, h.rl⟩
/-- The word. -/
theorem NdSt.word {b0 : Nat} {op op' : Bytes} {p : Int} {ns : List Bytes} {vs : List Value} {sn sl : Value} {w : World} (h : NdSt b0 op p ns vs sn sl w) : NdSt b0 op' p ns vs sn sl (w.setCell ⟨b0, 0, none⟩ (.string (bs op'))) := by
  have hk : Keeps [b0] w (w.setCell ⟨b0, 0, none⟩ (.string (bs op'))) := (Keeps.refl _ w).setCell (Or.inl (by simp)) _
  refine ⟨?_, ownsRow_keeps h.rn hk (by simp), ownsRow_keeps h.rl hk (by simp)⟩
  have := block_setCell h.blk 0 (.string (bs op'))
  simpa using this

theorem NdSt.name {b0 : Nat} {op : Bytes} {p : Int} {ns : List Bytes} {vs : List Value} {sn sl : Value} {w w1 w2 : World} (h : NdSt b0 op p ns vs sn sl w) (x : Bytes) (hk : Keeps [] w w1) (g cap : Nat)
    (ho : w2.ownsRow (b0 + 1) 9 1 (.slice (some ⟨g, 0, none⟩) (ns.length + 1) cap) (ns.length + 1) ((ns.map fun e => Value.string (bs e)) ++ [.string (bs x)])) (hg : w1.grownBy w2 sn.ownBlock) :
    NdSt b0 op p (ns ++ [x]) vs (.slice (some ⟨g, 0, none⟩) (ns.length + 1) cap) sl (w2.setCell ⟨b0, 1, none⟩ (.slice (some ⟨g, 0, none⟩) (ns.length + 1) cap)) := by
  have hge : ∀ k, sn.ownBlock = some k → b0 + 1 ≤ k := fun k hk => (h.rn.lt k hk).1
  have h1 : w1.heap[b0]? = _ := hk.some h.blk (by simp)
  have hblk2 : w2.heap[b0]? = some (.cells #[.string (bs op), sn, sl, .int .i64 p] 77 (0, 0)) := by
    rw [hg.block _ (lt_of_some h1) (fun e => by have := hge _ e.symm; omega)]; exact h1
  have hfar : ∀ (b : Nat) (o : Obj), w.heap[b]? = some o → sn.ownBlock ≠ some b → b ≠ b0 → (w2.setCell ⟨b0, 1, none⟩ (.slice (some ⟨g, 0, none⟩) (ns.length + 1) cap)).heap[b]? = some o := by
    intro b o hb hne hne0
    refine block_setCell_other ?_ _ _ hne0
    rw [hg.block b (Nat.lt_of_lt_of_le (lt_of_some hb) hk.size) (fun e => hne e.symm)]
    exact hk.some hb (by simp)
  have hrow : w2.heap[g]? = (w2.setCell ⟨b0, 1, none⟩ (.slice (some ⟨g, 0, none⟩) (ns.length + 1) cap)).heap[g]? :=
    (Below.heap_setCell w2 ⟨b0, 1, none⟩ _ g (fun e => by
      have := (ho.lt g rfl).1
      simp at e; omega)).symm
  have hnew : (w2.setCell ⟨b0, 1, none⟩ (.slice (some ⟨g, 0, none⟩) (ns.length + 1) cap)).ownsRow (b0 + 1) 9 1 (.slice (some ⟨g, 0, none⟩) (ns.length + 1) cap) (ns.length + 1) ((ns.map fun e => Value.string (bs e)) ++ [.string (bs x)]) := by
    refine ⟨ho.1, ?_⟩
    rcases ho.2 with ⟨h1, h2⟩ | ⟨g', cap', cur, h1, h2, h3, h4, h5, h6, h7⟩
    · simp at h1
    · simp only [Value.slice.injEq, Option.some.injEq, Addr.mk.injEq] at h1
      obtain ⟨⟨rfl, _⟩, _, rfl⟩ := h1
      exact .inr ⟨g, cap, cur, rfl, h2, by rw [← hrow]; exact h3, h4, h5, h6, h7⟩
  have hold : (w2.setCell ⟨b0, 1, none⟩ (.slice (some ⟨g, 0, none⟩) (ns.length + 1) cap)).ownsRow (b0 + 1) 31 1 sl vs.length vs := by
    refine ⟨h.rl.1, h.rl.2.imp id ?_⟩
    rintro ⟨g', cap', cur, e1, e2, e3, e4⟩
    exact ⟨g', cap', cur, e1, e2, hfar _ _ e3 (fun e => ownsRow_ne h.rn e3 (by decide) e.symm) (by omega), e4⟩
  refine ⟨?_, ?_, ?_⟩
  · have := block_setCell hblk2 1 (.slice (some ⟨g, 0, none⟩) (ns.length + 1) cap)
    simpa using this
  · simpa using hnew
  · exact hold

theorem NdSt.part {b0 : Nat} {op : Bytes} {p : Int} {ns : List Bytes} {vs : List Value} {sn sl : Value} {w w1 w2 : World} (h : NdSt b0 op p ns vs sn sl w) (v : Value) (hk : Keeps [] w w1) (g cap : Nat)
    (ho : w2.ownsRow (b0 + 1) 31 1 (.slice (some ⟨g, 0, none⟩) (vs.length + 1) cap) (vs.length + 1) (vs ++ [v])) (hg : w1.grownBy w2 sl.ownBlock) :
    NdSt b0 op p ns (vs ++ [v]) sn (.slice (some ⟨g, 0, none⟩) (vs.length + 1) cap) (w2.setCell ⟨b0, 2, none⟩ (.slice (some ⟨g, 0, none⟩) (vs.length + 1) cap)) := by
  have hge : ∀ k, sl.ownBlock = some k → b0 + 1 ≤ k := fun k hk => (h.rl.lt k hk).1
  have h1 : w1.heap[b0]? = _ := hk.some h.blk (by simp)
  have hblk2 : w2.heap[b0]? = some (.cells #[.string (bs op), sn, sl, .int .i64 p] 77 (0, 0)) := by
    rw [hg.block _ (lt_of_some h1) (fun e => by have := hge _ e.symm; omega)]; exact h1
  have hfar : ∀ (b : Nat) (o : Obj), w.heap[b]? = some o → sl.ownBlock ≠ some b → b ≠ b0 → (w2.setCell ⟨b0, 2, none⟩ (.slice (some ⟨g, 0, none⟩) (vs.length + 1) cap)).heap[b]? = some o := by
    intro b o hb hne hne0
    refine block_setCell_other ?_ _ _ hne0
    rw [hg.block b (Nat.lt_of_lt_of_le (lt_of_some hb) hk.size) (fun e => hne e.symm)]
    exact hk.some hb (by simp)
  have hrow : w2.heap[g]? = (w2.setCell ⟨b0, 2, none⟩ (.slice (some ⟨g, 0, none⟩) (vs.length + 1) cap)).heap[g]? :=
    (Below.heap_setCell w2 ⟨b0, 2, none⟩ _ g (fun e => by
      have := (ho.lt g rfl).1
      simp at e; omega)).symm
  have hnew : (w2.setCell ⟨b0, 2, none⟩ (.slice (some ⟨g, 0, none⟩) (vs.length + 1) cap)).ownsRow (b0 + 1) 31 1 (.slice (some ⟨g, 0, none⟩) (vs.length + 1) cap) (vs.length + 1) (vs ++ [v]) := by
    refine ⟨ho.1, ?_⟩
    rcases ho.2 with ⟨h1, h2⟩ | ⟨g', cap', cur, h1, h2, h3, h4, h5, h6, h7⟩
    · simp at h1
    · simp only [Value.slice.injEq, Option.some.injEq, Addr.mk.injEq] at h1
      obtain ⟨⟨rfl, _⟩, _, rfl⟩ := h1
      exact .inr ⟨g, cap, cur, rfl, h2, by rw [← hrow]; exact h3, h4, h5, h6, h7⟩
  have hold : (w2.setCell ⟨b0, 2, none⟩ (.slice (some ⟨g, 0, none⟩) (vs.length + 1) cap)).ownsRow (b0 + 1) 9 1 sn ns.length (ns.map fun e => Value.string (bs e)) := by
    refine ⟨h.rn.1, h.rn.2.imp id ?_⟩
    rintro ⟨g', cap', cur, e1, e2, e3, e4⟩
    exact ⟨g', cap', cur, e1, e2, hfar _ _ e3 (fun e => ownsRow_ne h.rl e3 (by decide) e.symm) (by omega), e4⟩
  refine ⟨?_, ?_, ?_⟩
  · have := block_setCell hblk2 2 (.slice (some ⟨g, 0, none⟩) (vs.length + 1) cap)
    simpa using this
  · exact hold
  · simpa using hnew
end Go.Proofs.YtpbplpnifjbkoaaDoor

namespace Go.Proofs.YtpbplpnifjbkoaaDoor
open Go.RowKit

/-- The reader's state: the tokens that are left, or the first place that is wrong. -/
def RSt (r : Nat) (s : Except Nat (List Tok)) (w : World) : Prop :=
  match s with
  | .ok ts => RC r ts (-1) w
  | .error p => ∃ ts, RC r ts (p : Nat) w
def wantS (k : Kind) : Except Nat (List Tok) → Except Nat (List Tok)
  | .ok ts => if headKind ts = k then .ok (adv ts) else .error (headPos ts)
  | .error p => .error p
theorem RSt.keep {r : Nat} {s : Except Nat (List Tok)} {w w' : World} (h : RSt r s w) (hk : Keeps [] w w') : RSt r s w' := by
  cases s with
  | ok ts => exact RC.keep h hk
  | error p => obtain ⟨ts, h⟩ := h; exact ⟨ts, h.keep hk⟩
theorem rneed_st {r : Nat} {s : Except Nat (List Tok)} {w : World} (h : RSt r s w) (k : Kind) (kb : ByteArray) (hkb : kb = bs (rstr k)) (h1 : k ≠ .eof) (h2 : k ≠ .bad) :
    Calls Tryd.prog 26 #[.pointer (some ⟨r, 0, none⟩), .string kb] w fun e w' => ∃ x, e = .returned (.string (bs x)) ∧ RSt r (wantS k s) w' ∧ Keeps [r] w w' ∧ ∀ ts, s = .ok ts → headKind ts = k → x = headText ts := by
  cases s with
  | ok ts =>
    by_cases he : headKind ts = k
    · refine (rneed_yes h k kb hkb he h2).mono ?_
      rintro e w' ⟨rfl, hrc, hk, _⟩
      refine ⟨_, rfl, ?_, hk, fun ts' h' _ => by cases h'; rfl⟩
      simp only [wantS, he, if_true]
      exact hrc h1
    · refine (rneed_no h k kb hkb he).mono ?_
      rintro e w' ⟨⟨x, rfl⟩, hrc, hk⟩
      refine ⟨x, rfl, ?_, hk, fun ts' h' h'' => by cases h'; exact absurd h'' he⟩
      simp only [wantS, he, if_false]
      exact ⟨ts, hrc⟩
  | error p =>
    obtain ⟨ts, h⟩ := h
    refine (rneed_bad h kb).mono ?_
    rintro e w' ⟨⟨x, rfl⟩, hk⟩
    exact ⟨x, rfl, ⟨ts, h.keep hk⟩, hk.mono (by simp), fun ts' h' => by cases h'⟩

/-- What parsing comes to from such a state. -/
def fromS (s : Except Nat (List Tok)) (f : List Tok → Res Exp) : Res Exp :=
  match s with
  | .ok ts => f ts
  | .error p => some (.error p)
theorem rexp_st {r n : Nat} (ih : RExpIH r n) {s : Except Nat (List Tok)} {w : World} (h : RSt r s w) {res : Except Nat (Exp × List Tok)} (hs : fromS s (pExp n) = some res) :
    Calls Tryd.prog 25 #[.pointer (some ⟨r, 0, none⟩)] w (RPost r w id res) := by
  cases s with
  | ok ts => exact ih ts w res h hs
  | error p =>
    obtain ⟨ts, h⟩ := h
    obtain rfl : res = .error p := by simpa [fromS] using hs.symm
    refine (rexp_bad h).mono ?_
    rintro e w' ⟨⟨c, rfl⟩, hk⟩
    exact ⟨hk.mono (by simp), c, rfl, ts, h.keep hk⟩
end Go.Proofs.YtpbplpnifjbkoaaDoor

namespace Go.Proofs.YtpbplpnifjbkoaaDoor
open Go.RowKit

/-- The parts that a node holds so far, each in an interval of its own, apart from the rows. -/
def PartsAt (w : World) (lo0 hi0 : Nat) (sn sl : Value) : List Exp → List Value → Prop
  | [], vs => vs = []
  | a :: r, vs => ∃ va vs' lo hi, vs = va :: vs' ∧ lo0 ≤ lo ∧ hi ≤ hi0 ∧ Apart sn sl lo hi ∧ RExpAt w lo hi a [] [] va ∧ PartsAt w lo0 hi0 sn sl r vs'

theorem PartsAt.keep {w w' : World} {lo0 hi0 hi1 : Nat} {sn sl sn' sl' : Value} {es : List Exp} {vs : List Value} (h : PartsAt w lo0 hi0 sn sl es vs)
    (hk : ∀ b, lo0 ≤ b → b < hi0 → sn.ownBlock ≠ some b → sl.ownBlock ≠ some b → w'.heap[b]? = w.heap[b]?) (hh : hi0 ≤ hi1)
    (hn : ∀ x, sn'.ownBlock = some x → sn.ownBlock = some x ∨ hi0 ≤ x) (hl : ∀ x, sl'.ownBlock = some x → sl.ownBlock = some x ∨ hi0 ≤ x) : PartsAt w' lo0 hi1 sn' sl' es vs := by
  induction es generalizing vs with
  | nil => exact h
  | cons a r ih =>
    obtain ⟨va, vs', lo, hi, rfl, h1, h2, h3, h4, h5⟩ := h
    refine ⟨va, vs', lo, hi, rfl, h1, Nat.le_trans h2 hh, ?_, ?_, ih h5⟩
    · rintro b (hb | hb)
      · rcases hn b hb with h | h
        · exact h3 b (.inl h)
        · exact .inr (Nat.le_trans h2 h)
      · rcases hl b hb with h | h
        · exact h3 b (.inr h)
        · exact .inr (Nat.le_trans h2 h)
    · refine RExpAt.keep (fun b hb1 hb2 => hk b (by omega) (by omega) (fun e => ?_) (fun e => ?_)) a _ _ _ h4
      · have := h3 b (.inl e); omega
      · have := h3 b (.inr e); omega
theorem PartsAt.snoc {w : World} {lo0 hi0 : Nat} {sn sl : Value} {es : List Exp} {vs : List Value} (h : PartsAt w lo0 hi0 sn sl es vs) {a : Exp} {va : Value} {lo hi : Nat}
    (h1 : lo0 ≤ lo) (h2 : hi ≤ hi0) (h3 : Apart sn sl lo hi) (h4 : RExpAt w lo hi a [] [] va) : PartsAt w lo0 hi0 sn sl (es ++ [a]) (vs ++ [va]) := by
  induction es generalizing vs with
  | nil => rw [show vs = [] from h]; exact ⟨va, [], lo, hi, rfl, h1, h2, h3, h4, rfl⟩
  | cons a' r ih =>
    obtain ⟨va', vs', lo', hi', rfl, g1, g2, g3, g4, g5⟩ := h
    exact ⟨va', vs' ++ [va], lo', hi', rfl, g1, g2, g3, g4, ih g5⟩
theorem PartsAt.one {w : World} {lo hi : Nat} {sn sl : Value} {a : Exp} {vs : List Value} (h : PartsAt w lo hi sn sl [a] vs) : ∃ va, vs = [va] ∧ RExpAt w lo hi a [] [] va := by
  obtain ⟨va, vs', lo', hi', rfl, g1, g2, g3, g4, rfl⟩ := h
  exact ⟨va, rfl, RExpAt.widen g1 g2 _ _ _ _ g4⟩
theorem PartsAt.cons {w : World} {lo hi : Nat} {sn sl : Value} {a : Exp} {r : List Exp} {vs : List Value} (h : PartsAt w lo hi sn sl (a :: r) vs) : ∃ va vs', vs = va :: vs' ∧ RExpAt w lo hi a [] [] va ∧ PartsAt w lo hi sn sl r vs' := by
  obtain ⟨va, vs', lo', hi', rfl, g1, g2, g3, g4, g5⟩ := h
  exact ⟨va, vs', rfl, RExpAt.widen g1 g2 _ _ _ _ g4, g5⟩
/-- The parts of a group: its bodies and what it is for. -/
theorem PartsAt.group {w : World} {lo hi : Nat} {sn sl : Value} {es : List (Bytes × Exp)} {b : Exp} {vs : List Value} (h : PartsAt w lo hi sn sl (es.map (·.2) ++ [b]) vs) :
    ∃ vs' vf, vs = vs' ++ [vf] ∧ RExpAt w lo hi (wrap es (.fin b)) (es.map (·.1)) vs' vf := by
  induction es generalizing vs with
  | nil =>
    obtain ⟨va, rfl, hv⟩ := PartsAt.one h
    exact ⟨[], va, rfl, rfl, rfl, hv⟩
  | cons y r ih =>
    obtain ⟨x, a⟩ := y
    obtain ⟨va, vs', rfl, h1, h2⟩ := PartsAt.cons h
    obtain ⟨vs'', vf, rfl, h3⟩ := ih h2
    exact ⟨va :: vs'', vf, rfl, _, va, vs'', rfl, rfl, h1, h3⟩

theorem RSt.far {r : Nat} {s : Except Nat (List Tok)} {w w' : World} (h : RSt r s w) (hs : w.heap.size ≤ w'.heap.size)
    (hr : w'.heap[r]? = w.heap[r]?) (hf : ∀ (g : Nat) cur z, w.heap[g]? = some (.cells cur 122 z) → w'.heap[g]? = w.heap[g]?) : RSt r s w' := by
  cases s with
  | ok ts => exact RC.far h hs hr hf
  | error p => obtain ⟨ts, h⟩ := h; exact ⟨ts, h.far hs hr hf⟩

structure NSt (r : Nat) (w0 : World) (op : Bytes) (p : Int) (ns : List Bytes) (vs : List Value) (es : List Exp) (sn sl : Value) (s : Except Nat (List Tok)) (w : World) : Prop where
  nd : NdSt w0.heap.size op p ns vs sn sl w
  st : RSt r s w
  kp : Keeps [r] w0 w
  rlt : r < w0.heap.size
  bn : ∀ ts, s = .ok ts → PartsAt w (w0.heap.size + 1) w.heap.size sn sl es vs

theorem NSt.step {r : Nat} {w0 : World} {op : Bytes} {p : Int} {ns : List Bytes} {vs : List Value} {es : List Exp} {sn sl : Value} {s s' : Except Nat (List Tok)} {w w' : World} (h : NSt r w0 op p ns vs es sn sl s w)
    (hk : Keeps [r] w w') (hs : RSt r s' w') (hok : ∀ ts', s' = .ok ts' → ∃ ts, s = .ok ts) : NSt r w0 op p ns vs es sn sl s' w' :=
  ⟨h.nd.keep hk (by have := h.rlt; simp; omega), hs, h.kp.trans hk (fun m hm => .inl hm), h.rlt, fun ts' e => by
    obtain ⟨ts, e⟩ := hok ts' e
    exact (h.bn ts e).keep (fun b h1 h2 _ _ => hk.block b h2 (by have := h.rlt; simp; omega)) hk.size (fun x hx => .inl hx) (fun x hx => .inl hx)⟩
theorem NSt.drew {r : Nat} {w0 : World} {op : Bytes} {p : Int} {ns : List Bytes} {vs : List Value} {es : List Exp} {sn sl : Value} {s : Except Nat (List Tok)} {w : World} (h : NSt r w0 op p ns vs es sn sl s w) : NSt r w0 op p ns vs es sn sl s w.drew :=
  h.step (Keeps.refl _ _).drew (h.st.keep (Keeps.refl _ _).drew) (fun ts' e => ⟨ts', e⟩)

theorem NSt.word {r : Nat} {w0 : World} {op : Bytes} {p : Int} {ns : List Bytes} {vs : List Value} {es : List Exp} {sn sl : Value} {s : Except Nat (List Tok)} {w : World} (h : NSt r w0 op p ns vs es sn sl s w) (op' : Bytes) :
    NSt r w0 op' p ns vs es sn sl s (w.setCell ⟨w0.heap.size, 0, none⟩ (.string (bs op'))) := by
  have hr := h.rlt
  refine ⟨h.nd.word, h.st.far (by simp [World.setCell]) (Below.heap_setCell _ _ _ _ (by simp; omega)) (fun g cur z hg => Below.heap_setCell _ _ _ _ (fun e => ?_)), h.kp.setCell (Or.inr (Nat.le_refl _)) _, hr, fun ts e => ?_⟩
  · simp only at e
    rw [e, h.nd.blk] at hg
    cases hg
  · exact (h.bn ts e).keep (fun b h1 h2 _ _ => Below.heap_setCell _ _ _ _ (by simp; omega)) (by simp [World.setCell]) (fun x hx => .inl hx) (fun x hx => .inl hx)

theorem NSt.name {r : Nat} {w0 : World} {op : Bytes} {p : Int} {ns : List Bytes} {vs : List Value} {es : List Exp} {sn sl : Value} {s : Except Nat (List Tok)} {w w1 w2 : World} (h : NSt r w0 op p ns vs es sn sl s w) (x : Bytes) (hk : Keeps [] w w1) (g cap : Nat)
    (ho : w2.ownsRow (w0.heap.size + 1) 9 1 (.slice (some ⟨g, 0, none⟩) (ns.length + 1) cap) (ns.length + 1) ((ns.map fun e => Value.string (bs e)) ++ [.string (bs x)])) (hg : w1.grownBy w2 sn.ownBlock) (hl : sn.ownBlock = some g ∨ w.heap.size ≤ g) :
    NSt r w0 op p (ns ++ [x]) vs es (.slice (some ⟨g, 0, none⟩) (ns.length + 1) cap) sl s (w2.setCell ⟨w0.heap.size, 1, none⟩ (.slice (some ⟨g, 0, none⟩) (ns.length + 1) cap)) := by
  have hr := h.rlt
  have hge : ∀ k, sn.ownBlock = some k → w0.heap.size + 1 ≤ k := fun k hk => (h.nd.rn.lt k hk).1
  have hsz1 := hk.size
  have hsz2 := hg.size
  have hsz0 := h.kp.size
  have hszz : (w2.setCell ⟨w0.heap.size, 1, none⟩ (.slice (some ⟨g, 0, none⟩) (ns.length + 1) cap)).heap.size = w2.heap.size := by simp [World.setCell]
  have hkeep : ∀ b, b < w.heap.size → b ≠ w0.heap.size → sn.ownBlock ≠ some b → (w2.setCell ⟨w0.heap.size, 1, none⟩ (.slice (some ⟨g, 0, none⟩) (ns.length + 1) cap)).heap[b]? = w.heap[b]? := by
    intro b h2 h0 h3
    rw [Below.heap_setCell w2 _ _ b (by simpa using h0), hg.block b (by omega) (fun e => h3 e.symm), hk.block b h2 (by simp)]
  refine ⟨h.nd.name x hk g cap ho hg, h.st.far (by rw [hszz]; omega) (hkeep r (by omega) (by omega) (fun e => by have := hge _ e; omega)) (fun g' cur z hg' => ?_), ?_, hr, fun ts e => ?_⟩
  · refine hkeep g' (lt_of_some hg') (fun e => ?_) (fun e => ownsRow_ne h.nd.rn hg' (by decide) e.symm)
    rw [e, h.nd.blk] at hg'
    cases hg'
  · exact ((h.kp.trans0 hk).grown hg (fun k hk => Or.inr (by have := hge k hk; omega))).setCell (Or.inr (Nat.le_refl _)) _
  · refine (h.bn ts e).keep (fun b h1 h2 h3 _ => hkeep b h2 (by omega) h3) (by rw [hszz]; omega) ?_ (fun x hx => .inl hx)
    intro y hy
    simp only [Value.ownBlock, Option.some.injEq] at hy
    subst hy
    exact hl

/-- A part read and appended. -/
theorem NSt.part {r : Nat} {w0 : World} {op : Bytes} {p : Int} {ns : List Bytes} {vs : List Value} {es : List Exp} {sn sl : Value} {s s' : Except Nat (List Tok)} {w w1 w2 w3 : World} (h : NSt r w0 op p ns vs es sn sl s w) (a : Exp) (va : Value)
    (hk1 : Keeps [r] w w1) (hs : RSt r s' w1) (hok : ∀ ts', s' = .ok ts' → (∃ ts, s = .ok ts) ∧ RExpAt w1 w.heap.size w1.heap.size a [] [] va) (hk : Keeps [] w1 w2) (g cap : Nat)
    (ho : w3.ownsRow (w0.heap.size + 1) 31 1 (.slice (some ⟨g, 0, none⟩) (vs.length + 1) cap) (vs.length + 1) (vs ++ [va])) (hg : w2.grownBy w3 sl.ownBlock) (hl : sl.ownBlock = some g ∨ w1.heap.size ≤ g) :
    NSt r w0 op p ns (vs ++ [va]) (es ++ [a]) sn (.slice (some ⟨g, 0, none⟩) (vs.length + 1) cap) s' (w3.setCell ⟨w0.heap.size, 2, none⟩ (.slice (some ⟨g, 0, none⟩) (vs.length + 1) cap)) := by
  have hgw := h.nd.rl.lt
  have hnw := h.nd.rn.lt
  have hkz := hk1.size
  have hr := h.rlt
  have h' := h.step hk1 hs (fun ts' e => (hok ts' e).1)
  have hge : ∀ k, sl.ownBlock = some k → w0.heap.size + 1 ≤ k := fun k hk => (h'.nd.rl.lt k hk).1
  have hsz1 := hk.size
  have hsz2 := hg.size
  have hsz0 := h'.kp.size
  have hszz : (w3.setCell ⟨w0.heap.size, 2, none⟩ (.slice (some ⟨g, 0, none⟩) (vs.length + 1) cap)).heap.size = w3.heap.size := by simp [World.setCell]
  have hkeep : ∀ b, b < w1.heap.size → b ≠ w0.heap.size → sl.ownBlock ≠ some b → (w3.setCell ⟨w0.heap.size, 2, none⟩ (.slice (some ⟨g, 0, none⟩) (vs.length + 1) cap)).heap[b]? = w1.heap[b]? := by
    intro b h2 h0 h3
    rw [Below.heap_setCell w3 _ _ b (by simpa using h0), hg.block b (by omega) (fun e => h3 e.symm), hk.block b h2 (by simp)]
  have hsl' : ∀ x, (Value.slice (some ⟨g, 0, none⟩) (vs.length + 1) cap).ownBlock = some x → sl.ownBlock = some x ∨ w1.heap.size ≤ x := by
    intro y hy
    simp only [Value.ownBlock, Option.some.injEq] at hy
    subst hy
    exact hl
  refine ⟨h'.nd.part va hk g cap ho hg, h'.st.far (by rw [hszz]; omega) (hkeep r (by omega) (by omega) (fun e => by have := hge _ e; omega)) (fun g' cur z hg' => ?_), ?_, hr, fun ts e => ?_⟩
  · refine hkeep g' (lt_of_some hg') (fun e => ?_) (fun e => ownsRow_ne h'.nd.rl hg' (by decide) e.symm)
    rw [e, h'.nd.blk] at hg'
    cases hg'
  · exact ((h'.kp.trans0 hk).grown hg (fun k hk => Or.inr (by have := hge k hk; omega))).setCell (Or.inr (Nat.le_refl _)) _
  · have hlo := h.kp.size
    have hb0 := lt_of_some h.nd.blk
    refine PartsAt.snoc (lo := w.heap.size) (hi := w1.heap.size) ((h'.bn ts e).keep (fun b h1 h2 _ h4 => hkeep b h2 (by omega) h4) (by rw [hszz]; omega) (fun x hx => .inl hx) hsl') (by omega) (by rw [hszz]; omega) ?_ ?_
    · rintro b (hb | hb)
      · exact .inl (hnw b hb).2
      · rcases hsl' b hb with h | h
        · exact .inl (hgw b h).2
        · exact .inr h
    · exact RExpAt.keep (fun b h1 h2 => hkeep b h2 (by omega) (fun e => by have := hgw b e; omega)) a _ _ _ (hok ts e).2

/-- The state behind a parse. -/
def stOf : Except Nat (Exp × List Tok) → Except Nat (List Tok)
  | .ok (_, ts) => .ok ts
  | .error p => .error p
/-- A node done. -/
theorem NSt.node {r : Nat} {w0 : World} {op : Bytes} {p : Nat} {ns : List Bytes} {vs : List Value} {es : List Exp} {sn sl : Value} {s : Except Nat (List Tok)} {w : World} (h : NSt r w0 op p ns vs es sn sl s w) :
    Node w w0.heap.size w.heap.size op ns vs p (.pointer (some ⟨w0.heap.size, 0, none⟩)) := by
  refine ⟨w0.heap.size, sn, sl, Nat.le_refl _, lt_of_some h.nd.blk, rfl, h.nd.blk, ?_, ?_⟩
  · have := h.nd.rn
    rw [show ns.length = (ns.map fun e => Value.string (bs e)).length by simp] at this
    exact (RowAt.of_owns this).widen (Nat.le_succ _) (Nat.le_refl _)
  · exact (RowAt.of_owns h.nd.rl).widen (Nat.le_succ _) (Nat.le_refl _)
theorem PartsAt.widen {w : World} {lo0 hi0 lo1 : Nat} {sn sl : Value} {es : List Exp} {vs : List Value} (h : PartsAt w lo0 hi0 sn sl es vs) (hl : lo1 ≤ lo0) : PartsAt w lo1 hi0 sn sl es vs := by
  induction es generalizing vs with
  | nil => exact h
  | cons a r ih =>
    obtain ⟨va, vs', lo, hi, rfl, h1, h2, h3, h4, h5⟩ := h
    exact ⟨va, vs', lo, hi, rfl, by omega, h2, h3, h4, ih h5⟩

/-! ### Plain: parsing by states -/
def bindS {α : Type} (s : Except Nat (List Tok)) (f : List Tok → Res α) : Res α :=
  match s with
  | .ok ts => f ts
  | .error p => some (.error p)
theorem want_bindS {α : Type} (k : Kind) (ts : List Tok) (f : Bytes → List Tok → Res α) : (want k ts).bind f = bindS (wantS k (.ok ts)) (f (headText ts)) := by
  unfold want wantS
  by_cases h : headKind ts = k
  · simp [h, Res.bind, bindS]
  · simp [h, Res.bind, bindS]
theorem bindS_want {α : Type} (k : Kind) (s : Except Nat (List Tok)) (f : List Tok → Res α) : bindS s (fun ts => (want k ts).bind fun _ ts => f ts) = bindS (wantS k s) f := by
  cases s with
  | ok ts => simp only [bindS]; rw [want_bindS]; rfl
  | error p => rfl
theorem bindS_bind {α β : Type} (s : Except Nat (List Tok)) (f : List Tok → Res α) (g : α → List Tok → Res β) : bindS s (fun ts => (f ts).bind g) = (bindS s f).bind g := by
  cases s with
  | ok ts => rfl
  | error p => rfl
theorem fromS_eq (s : Except Nat (List Tok)) (f : List Tok → Res Exp) : fromS s f = bindS s f := rfl
/-- One more part read, as a step. -/
theorem res_step {α : Type} {r : Res Exp} {g : Exp → List Tok → Res α} {res : Except Nat (α × List Tok)} (h : r.bind g = some res) :
    ∃ res1, r = some res1 ∧ bindS (stOf res1) (fun ts => g (match res1 with | .ok (x, _) => x | .error _ => .num 0 []) ts) = some res := by
  unfold Res.bind at h
  split at h
  · cases h
  · rename_i p; exact ⟨.error p, rfl, h⟩
  · rename_i a ts; exact ⟨.ok (a, ts), rfl, h⟩
def expOf : Except Nat (Exp × List Tok) → Exp
  | .ok (x, _) => x
  | .error _ => .num 0 []
theorem res_next {α : Type} {r : Res Exp} {g : Exp → List Tok → Res α} {res : Except Nat (α × List Tok)} (h : r.bind g = some res) :
    ∃ res1, r = some res1 ∧ bindS (stOf res1) (g (expOf res1)) = some res := by
  obtain ⟨res1, h1, h2⟩ := res_step h
  refine ⟨res1, h1, ?_⟩
  rw [← h2]
  cases res1 with
  | ok q => rfl
  | error p => rfl
theorem RPost.parts {r : Nat} {w w' : World} {res : Except Nat (Exp × List Tok)} {e : Ending} (h : RPost r w id res e w') :
    ∃ b : Nat, e = .returned (.pointer (some ⟨b, 0, none⟩)) ∧ Keeps [r] w w' ∧ RSt r (stOf res) w' ∧ ∀ ts, stOf res = .ok ts → RExpAt w' w.heap.size w'.heap.size (expOf res) [] [] (.pointer (some ⟨b, 0, none⟩)) := by
  obtain ⟨hk, b, he, h⟩ := h
  refine ⟨b, he, hk, ?_⟩
  cases res with
  | ok q => obtain ⟨x, ts⟩ := q; exact ⟨h.2, fun _ _ => h.1⟩
  | error p => exact ⟨h, fun _ e => by cases e⟩
theorem wantS_ok {k : Kind} {s : Except Nat (List Tok)} : ∀ ts', wantS k s = .ok ts' → ∃ ts, s = .ok ts := by
  intro ts' h
  cases s with
  | ok ts => exact ⟨ts, rfl⟩
  | error p => cases h
theorem stOf_ok {n : Nat} {s : Except Nat (List Tok)} {res : Except Nat (Exp × List Tok)} (h : bindS s (pExp n) = some res) : ∀ ts', stOf res = .ok ts' → ∃ ts, s = .ok ts := by
  intro ts' e
  cases s with
  | ok ts => exact ⟨ts, rfl⟩
  | error p => simp only [bindS, Option.some.injEq] at h; subst h; cases e
end Go.Proofs.YtpbplpnifjbkoaaDoor

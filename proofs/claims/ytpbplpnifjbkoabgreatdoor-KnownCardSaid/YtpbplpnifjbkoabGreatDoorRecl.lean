/-
  The state of the parser's loop over the names of a let rec, in plain terms; its steps.
-/
import Derived.Test.YtpbplpnifjbkoabGreatDoorExpx
import Derived.Deep.AppendLies
namespace Go.Proofs.YtpbplpnifjbkoabGreatDoor
open Go.RowKit

/-- Names and bodies around what follows them. -/
def wrap : List (Bytes × Exp) → Exp → Exp
  | [], e => e
  | (x, a) :: r, e => .bnd x a (wrap r e)
theorem wrap_snoc (es : List (Bytes × Exp)) (x : Bytes) (a e : Exp) : wrap (es ++ [(x, a)]) e = wrap es (.bnd x a e) := by
  induction es with
  | nil => rfl
  | cons y r ih => obtain ⟨z, b⟩ := y; simp [wrap, ih]

/-- Neither row's block lies in [lo, hi). -/
def Apart (sn sl : Value) (lo hi : Nat) : Prop := ∀ x, (sn.ownBlock = some x ∨ sl.ownBlock = some x) → x < lo ∨ hi ≤ x

def BndsAt (w : World) (lo0 hi0 : Nat) (sn sl : Value) : List (Bytes × Exp) → List Value → Prop
  | [], vs => vs = []
  | (_, a) :: r, vs => ∃ va vs' lo hi, vs = va :: vs' ∧ lo0 ≤ lo ∧ hi ≤ hi0 ∧ Apart sn sl lo hi ∧ ExprAt w lo hi a [] [] va ∧ BndsAt w lo0 hi0 sn sl r vs'

theorem BndsAt.keep {w w' : World} {lo0 hi0 hi1 : Nat} {sn sl sn' sl' : Value} {es : List (Bytes × Exp)} {vs : List Value} (h : BndsAt w lo0 hi0 sn sl es vs)
    (hk : ∀ b, lo0 ≤ b → b < hi0 → sn.ownBlock ≠ some b → sl.ownBlock ≠ some b → w'.heap[b]? = w.heap[b]?) (hh : hi0 ≤ hi1)
    (hn : ∀ x, sn'.ownBlock = some x → sn.ownBlock = some x ∨ hi0 ≤ x) (hl : ∀ x, sl'.ownBlock = some x → sl.ownBlock = some x ∨ hi0 ≤ x) : BndsAt w' lo0 hi1 sn' sl' es vs := by
  induction es generalizing vs with
  | nil => exact h
  | cons y r ih =>
    obtain ⟨x, a⟩ := y
    obtain ⟨va, vs', lo, hi, rfl, h1, h2, h3, h4, h5⟩ := h
    refine ⟨va, vs', lo, hi, rfl, h1, Nat.le_trans h2 hh, ?_, ?_, ih h5⟩
    · rintro b (hb | hb)
      · rcases hn b hb with h | h
        · exact h3 b (.inl h)
        · exact .inr (Nat.le_trans h2 h)
      · rcases hl b hb with h | h
        · exact h3 b (.inr h)
        · exact .inr (Nat.le_trans h2 h)
    · refine ExprAt.keep (fun b hb1 hb2 => hk b (by omega) (by omega) (fun e => ?_) (fun e => ?_)) a _ _ _ h4
      · have := h3 b (.inl e); omega
      · have := h3 b (.inr e); omega
theorem BndsAt.snoc {w : World} {lo0 hi0 : Nat} {sn sl : Value} {es : List (Bytes × Exp)} {vs : List Value} (h : BndsAt w lo0 hi0 sn sl es vs) {x : Bytes} {a : Exp} {va : Value} {lo hi : Nat}
    (h1 : lo0 ≤ lo) (h2 : hi ≤ hi0) (h3 : Apart sn sl lo hi) (h4 : ExprAt w lo hi a [] [] va) : BndsAt w lo0 hi0 sn sl (es ++ [(x, a)]) (vs ++ [va]) := by
  induction es generalizing vs with
  | nil => rw [show vs = [] from h]; exact ⟨va, [], lo, hi, rfl, h1, h2, h3, h4, rfl⟩
  | cons y r ih =>
    obtain ⟨x', a'⟩ := y
    obtain ⟨va', vs', lo', hi', rfl, g1, g2, g3, g4, g5⟩ := h
    exact ⟨va', vs' ++ [va], lo', hi', rfl, g1, g2, g3, g4, ih g5⟩
/-- Names, bodies and what follows: the chain that a let rec's node holds. -/
theorem BndsAt.done {w : World} {lo0 hi0 : Nat} {sn sl : Value} {es : List (Bytes × Exp)} {vs : List Value} (h : BndsAt w lo0 hi0 sn sl es vs) {b : Exp} {vb : Value} (hb : ExprAt w lo0 hi0 b [] [] vb) :
    ExprAt w lo0 hi0 (wrap es (.fin b)) (es.map (·.1)) vs vb := by
  induction es generalizing vs with
  | nil => rw [show vs = [] from h]; exact ⟨rfl, rfl, hb⟩
  | cons y r ih =>
    obtain ⟨x', a'⟩ := y
    obtain ⟨va', vs', lo', hi', rfl, g1, g2, g3, g4, g5⟩ := h
    exact ⟨_, va', vs', rfl, rfl, ExprAt.widen g1 g2 _ _ _ _ g4, ih g5⟩

/-- The state at the head of the loop, and inside a round. -/
structure RecSt (s : ByteArray) (r t : Nat) (w0 : World) (p : Int) (es : List (Bytes × Exp)) (ns : List Bytes) (vs : List Value) (sn sl : Value) (ts : List Tok) (w : World) : Prop where
  pc : PC s r t ts w
  kp : Keeps [t] w0 w
  blk : w.heap[w0.heap.size]? = some (.cells #[.int .i64 p, sn, sl, .nilIface] 221 (0, 0))
  rn : w.ownsRow (w0.heap.size + 1) 9 1 sn ns.length (ns.map fun e => Value.string (bs e))
  rl : w.ownsRow (w0.heap.size + 1) 108 1 sl es.length vs
  bn : BndsAt w (w0.heap.size + 1) w.heap.size sn sl es vs
  tlt : t < w0.heap.size
  rlt : r < w0.heap.size

theorem ownsRow_keeps {w w' : World} {M : List Nat} {base : Nat} {e : TypeId} {size : Nat} {v : Value} {n : Nat} {xs : List Value} (h : w.ownsRow base e size v n xs) (hk : Keeps M w w') (hM : ∀ m ∈ M, m < base) : w'.ownsRow base e size v n xs :=
  ⟨h.1, h.2.imp id fun ⟨g, cap, cur, h1, h2, h3, h4⟩ => ⟨g, cap, cur, h1, h2, hk.some h3 (fun hm => by have := hM g hm; omega), h4⟩⟩

/-- A step of the token reader. -/
theorem RecSt.step {s : ByteArray} {r t : Nat} {w0 : World} {p : Int} {es : List (Bytes × Exp)} {ns : List Bytes} {vs : List Value} {sn sl : Value} {ts ts' : List Tok} {w w' : World} (h : RecSt s r t w0 p es ns vs sn sl ts w)
    (hk : Keeps [t] w w') (hp : PC s r t ts' w') : RecSt s r t w0 p es ns vs sn sl ts' w' := by
  have ht := h.tlt
  refine ⟨hp, h.kp.trans hk (fun m hm => Or.inl hm), hk.some h.blk (by simp; omega), ownsRow_keeps h.rn hk (by simp; omega), ownsRow_keeps h.rl hk (by simp; omega),
    h.bn.keep (fun b h1 h2 _ _ => hk.block b h2 (by simp; omega)) hk.size (fun x hx => .inl hx) (fun x hx => .inl hx), ht, h.rlt⟩

/-- The name appended. -/
theorem RecSt.name {s : ByteArray} {r t : Nat} {w0 : World} {p : Int} {es : List (Bytes × Exp)} {ns : List Bytes} {vs : List Value} {sn sl : Value} {ts : List Tok} {w w1 w2 : World} (h : RecSt s r t w0 p es ns vs sn sl ts w) (x : Bytes)
    (hk : Keeps [] w w1) (g cap : Nat) (ho : w2.ownsRow (w0.heap.size + 1) 9 1 (.slice (some ⟨g, 0, none⟩) (ns.length + 1) cap) (ns.length + 1) ((ns.map fun e => Value.string (bs e)) ++ [.string (bs x)]))
    (hg : w1.grownBy w2 sn.ownBlock) (hl : sn.ownBlock = some g ∨ w.heap.size ≤ g) (_hlt : g < w2.heap.size) :
    RecSt s r t w0 p es (ns ++ [x]) vs (.slice (some ⟨g, 0, none⟩) (ns.length + 1) cap) sl ts (w2.setCell ⟨w0.heap.size, 1, none⟩ (.slice (some ⟨g, 0, none⟩) (ns.length + 1) cap)) := by
  have ht := h.tlt
  have hr := h.rlt
  have hsz := h.kp.size
  have hb0 := lt_of_some h.blk
  have h1 : w1.heap[w0.heap.size]? = _ := hk.some h.blk (by simp)
  have hge : ∀ k, sn.ownBlock = some k → w0.heap.size + 1 ≤ k := fun k hk => (h.rn.lt k hk).1
  have hblk2 : w2.heap[w0.heap.size]? = some (.cells #[.int .i64 p, sn, sl, .nilIface] 221 (0, 0)) := by
    rw [hg.block _ (lt_of_some h1) (fun e => by have := hge _ e.symm; omega)]; exact h1
  have hfar : ∀ (b : Nat) (o : Obj), w.heap[b]? = some o → sn.ownBlock ≠ some b → b ≠ w0.heap.size → (w2.setCell ⟨w0.heap.size, 1, none⟩ (.slice (some ⟨g, 0, none⟩) (ns.length + 1) cap)).heap[b]? = some o := by
    intro b o hb hne hne0
    refine block_setCell_other ?_ _ _ hne0
    rw [hg.block b (Nat.lt_of_lt_of_le (lt_of_some hb) hk.size) (fun e => hne e.symm)]
    exact hk.some hb (by simp)
  have hrow : w2.heap[g]? = (w2.setCell ⟨w0.heap.size, 1, none⟩ (.slice (some ⟨g, 0, none⟩) (ns.length + 1) cap)).heap[g]? :=
    (Below.heap_setCell w2 ⟨w0.heap.size, 1, none⟩ _ g (fun e => by
      have := (ho.lt g rfl).1
      simp at e; omega)).symm
  have hszz : (w2.setCell ⟨w0.heap.size, 1, none⟩ (.slice (some ⟨g, 0, none⟩) (ns.length + 1) cap)).heap.size = w2.heap.size := by simp [World.setCell]
  have hsz2 := hg.size
  have hsz1 := hk.size
  have hne : ∀ b (o : Obj), w.heap[b]? = some o → (∀ c tt z, o = .cells c tt z → tt ≠ 9) → (∃ c tt z, o = .cells c tt z) → sn.ownBlock ≠ some b := by
    rintro b o hb hty ⟨c, tt, z, rfl⟩ e
    exact ownsRow_ne h.rn hb (hty _ _ _ rfl) e.symm
  refine ⟨?_, ?_, ?_, ?_, ?_, ?_, ht, hr⟩
  · refine ⟨⟨?_, h.pc.rd.fit⟩, ?_, h.pc.ne, by rw [hszz]; have := h.pc.lt; omega⟩
    · obtain ⟨hd, hat, hn, hts⟩ := h.pc.rd.ex
      exact ⟨hd, hfar _ _ hat (fun e => by have := hge _ e; omega) (by omega), hn, hts⟩
    · exact hfar _ _ h.pc.ptr (fun e => by have := hge _ e; omega) (by omega)
  · exact ((h.kp.trans0 hk).grown hg (fun k hk => Or.inr (by have := hge k hk; omega))).setCell (Or.inr (Nat.le_refl _)) _
  · have := block_setCell hblk2 1 (.slice (some ⟨g, 0, none⟩) (ns.length + 1) cap)
    simpa using this
  · refine ⟨by simp, ?_⟩
    rcases ho.2 with ⟨h1, h2⟩ | ⟨g', cap', cur, h1, h2, h3, h4, h5, h6, h7⟩
    · simp at h1
    · simp only [Value.slice.injEq, Option.some.injEq, Addr.mk.injEq] at h1
      obtain ⟨⟨rfl, _⟩, _, rfl⟩ := h1
      refine .inr ⟨g, cap, cur, by simp, h2, by rw [← hrow]; exact h3, by simpa using h4, h5, h6, by simpa using h7⟩
  · refine ⟨h.rl.1, h.rl.2.imp id ?_⟩
    rintro ⟨g', cap', cur, e1, e2, e3, e4⟩
    exact ⟨g', cap', cur, e1, e2, hfar _ _ e3 (hne _ _ e3 (by rintro c tt z e; cases e; decide) ⟨_, _, _, rfl⟩) (by omega), e4⟩
  · refine h.bn.keep ?_ (by rw [hszz]; omega) ?_ (fun x hx => .inl hx)
    · intro b h1 h2 h3 _
      rw [Below.heap_setCell w2 _ _ b (by simp; omega), hg.block b (by omega) (fun e => h3 e.symm), hk.block b h2 (by simp)]
    · intro x hx
      simp only [Value.ownBlock, Option.some.injEq] at hx
      subst hx
      exact hl

/-- The body appended. -/
theorem RecSt.body {s : ByteArray} {r t : Nat} {w0 : World} {p : Int} {es : List (Bytes × Exp)} {ns : List Bytes} {vs : List Value} {sn sl : Value} {ts ts' : List Tok} {w w1 w2 w3 : World} (h : RecSt s r t w0 p es ns vs sn sl ts w) (x : Bytes) (a : Exp) (va : Value)
    (hk : Keeps [t] w w1) (hp : PC s r t ts' w1) (hv : ExprAt w1 w.heap.size w1.heap.size a [] [] va) (hk2 : Keeps [] w1 w2) (g cap : Nat)
    (ho : w3.ownsRow (w0.heap.size + 1) 108 1 (.slice (some ⟨g, 0, none⟩) (es.length + 1) cap) (es.length + 1) (vs ++ [va]))
    (hg : w2.grownBy w3 sl.ownBlock) (hl : sl.ownBlock = some g ∨ w1.heap.size ≤ g) (_hlt : g < w3.heap.size) :
    RecSt s r t w0 p (es ++ [(x, a)]) ns (vs ++ [va]) sn (.slice (some ⟨g, 0, none⟩) (es.length + 1) cap) ts' (w3.setCell ⟨w0.heap.size, 2, none⟩ (.slice (some ⟨g, 0, none⟩) (es.length + 1) cap)) := by
  have h' := h.step hk hp
  have hb0 := lt_of_some h.blk
  have ht := h.tlt
  have hr := h.rlt
  have hsz := h.kp.size
  have hge : ∀ k, sl.ownBlock = some k → w0.heap.size + 1 ≤ k ∧ k < w.heap.size := fun k hk => h.rl.lt k hk
  have hgn : ∀ k, sn.ownBlock = some k → w0.heap.size + 1 ≤ k ∧ k < w.heap.size := fun k hk => h.rn.lt k hk
  have h1 : w2.heap[w0.heap.size]? = _ := hk2.some h'.blk (by simp)
  have hblk2 : w3.heap[w0.heap.size]? = some (.cells #[.int .i64 p, sn, sl, .nilIface] 221 (0, 0)) := by
    rw [hg.block _ (lt_of_some h1) (fun e => by have := hge _ e.symm; omega)]; exact h1
  have hfar : ∀ (b : Nat) (o : Obj), w1.heap[b]? = some o → sl.ownBlock ≠ some b → b ≠ w0.heap.size → (w3.setCell ⟨w0.heap.size, 2, none⟩ (.slice (some ⟨g, 0, none⟩) (es.length + 1) cap)).heap[b]? = some o := by
    intro b o hb hne hne0
    refine block_setCell_other ?_ _ _ hne0
    rw [hg.block b (Nat.lt_of_lt_of_le (lt_of_some hb) hk2.size) (fun e => hne e.symm)]
    exact hk2.some hb (by simp)
  have hrow : w3.heap[g]? = (w3.setCell ⟨w0.heap.size, 2, none⟩ (.slice (some ⟨g, 0, none⟩) (es.length + 1) cap)).heap[g]? :=
    (Below.heap_setCell w3 ⟨w0.heap.size, 2, none⟩ _ g (fun e => by
      have := (ho.lt g rfl).1
      simp at e; omega)).symm
  have hszz : (w3.setCell ⟨w0.heap.size, 2, none⟩ (.slice (some ⟨g, 0, none⟩) (es.length + 1) cap)).heap.size = w3.heap.size := by simp [World.setCell]
  have hsz3 := hg.size
  have hsz2 := hk2.size
  have hsz1 := hk.size
  have hne : ∀ b (o : Obj), w1.heap[b]? = some o → (∀ c tt z, o = .cells c tt z → tt ≠ 108) → (∃ c tt z, o = .cells c tt z) → sl.ownBlock ≠ some b := by
    rintro b o hb hty ⟨c, tt, z, rfl⟩ e
    exact ownsRow_ne h'.rl hb (hty _ _ _ rfl) e.symm
  have hkeep : ∀ b, w0.heap.size + 1 ≤ b → b < w1.heap.size → sl.ownBlock ≠ some b → (w3.setCell ⟨w0.heap.size, 2, none⟩ (.slice (some ⟨g, 0, none⟩) (es.length + 1) cap)).heap[b]? = w1.heap[b]? := by
    intro b h1 h2 h3
    rw [Below.heap_setCell w3 _ _ b (by simp; omega), hg.block b (by omega) (fun e => h3 e.symm), hk2.block b h2 (by simp)]
  have hsl' : ∀ x, (Value.slice (some ⟨g, 0, none⟩) (es.length + 1) cap).ownBlock = some x → sl.ownBlock = some x ∨ w1.heap.size ≤ x := by
    intro x hx
    simp only [Value.ownBlock, Option.some.injEq] at hx
    subst hx
    exact hl
  refine ⟨?_, ?_, ?_, ?_, ?_, ?_, ht, hr⟩
  · refine ⟨⟨?_, h'.pc.rd.fit⟩, ?_, h'.pc.ne, by rw [hszz]; have := h'.pc.lt; omega⟩
    · obtain ⟨hd, hat, hn, hts⟩ := h'.pc.rd.ex
      exact ⟨hd, hfar _ _ hat (fun e => by have := hge _ e; omega) (by omega), hn, hts⟩
    · exact hfar _ _ h'.pc.ptr (fun e => by have := hge _ e; omega) (by omega)
  · exact ((h'.kp.trans0 hk2).grown hg (fun k hk => Or.inr (by have := hge k hk; omega))).setCell (Or.inr (Nat.le_refl _)) _
  · have := block_setCell hblk2 2 (.slice (some ⟨g, 0, none⟩) (es.length + 1) cap)
    simpa using this
  · refine ⟨h'.rn.1, h'.rn.2.imp id ?_⟩
    rintro ⟨g', cap', cur, e1, e2, e3, e4⟩
    exact ⟨g', cap', cur, e1, e2, hfar _ _ e3 (hne _ _ e3 (by rintro c tt z e; cases e; decide) ⟨_, _, _, rfl⟩) (by omega), e4⟩
  · refine ⟨by simpa using ho.1, ?_⟩
    rcases ho.2 with ⟨h1, h2⟩ | ⟨g', cap', cur, h1, h2, h3, h4, h5, h6, h7⟩
    · simp at h1
    · simp only [Value.slice.injEq, Option.some.injEq, Addr.mk.injEq] at h1
      obtain ⟨⟨rfl, _⟩, _, rfl⟩ := h1
      refine .inr ⟨g, cap, cur, by simp, h2, by rw [← hrow]; exact h3, by simpa using h4, h5, h6, by simpa using h7⟩
  · refine BndsAt.snoc (lo := w.heap.size) (hi := w1.heap.size) (h'.bn.keep (fun b h1 h2 _ h4 => hkeep b h1 h2 h4) (by rw [hszz]; omega) (fun x hx => .inl hx) hsl') (by omega) (by rw [hszz]; omega) ?_ ?_
    · rintro b (hb | hb)
      · exact .inl (hgn b hb).2
      · rcases hsl' b hb with h | h
        · exact .inl (hge b h).2
        · exact .inr h
    · exact ExprAt.keep (fun b h1 h2 => hkeep b (by omega) h2 (fun e => by have := hge b e; omega)) a _ _ _ hv
end Go.Proofs.YtpbplpnifjbkoabGreatDoor

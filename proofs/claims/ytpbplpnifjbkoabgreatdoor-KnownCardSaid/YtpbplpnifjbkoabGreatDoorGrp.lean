/-
  An inference's state behind a change of blocks that a group's rounds own; a row of types while it is filled; rows of schemes.
-/
import Derived.Test.YtpbplpnifjbkoabGreatDoorOfx
import Derived.Test.YtpbplpnifjbkoabGreatDoorNewx
import Derived.Test.YtpbplpnifjbkoabGreatDoorFault
import Derived.Test.YtpbplpnifjbkoabGreatDoorEng
import Derived.Test.YtpbplpnifjbkoabGreatDoorTxt
import Derived.Test.YtpbplpnifjbkoabGreatDoorBelow2
import Derived.Test.YtpbplpnifjbkoabGreatDoorAlk
import Derived.Laws.MakeOwn
namespace Go.Proofs.YtpbplpnifjbkoabGreatDoor
open Go.RowKit

/-- Types of blocks that no type, scope, engine is made of: rows of schemes, a box of one; what a watcher keeps. -/
abbrev softL : List TypeId := [119, 323, 9, 33, 30]
/-- Blocks that may be written to: these, and rows of types that are barred. -/
def Soft (BI : Inhabited Bar) (Y : List Nat) (w : World) : Prop := ∀ y ∈ Y, ∃ cs T z, w.heap[y]? = some (.cells cs T z) ∧ (((T = 187 ∨ T = 116) ∧ y ∈ @barB BI) ∨ T ∈ softL)
/-- Those of them that no watcher keeps. -/
def SoftF (BI : Inhabited Bar) (Y : List Nat) (w : World) : Prop := ∀ y ∈ Y, ∃ cs T z, w.heap[y]? = some (.cells cs T z) ∧ (((T = 187 ∨ T = 116) ∧ y ∈ @barB BI) ∨ T = 119 ∨ T = 323)
theorem SoftF.soft {BI : Inhabited Bar} {Y : List Nat} {w : World} (h : SoftF BI Y w) : Soft BI Y w := fun y hy => by
  obtain ⟨cs, T, z, h1, h2⟩ := h y hy
  exact ⟨cs, T, z, h1, h2.imp id (fun h => by rcases h with rfl | rfl <;> decide)⟩
theorem Soft.not {BI : Inhabited Bar} {Y : List Nat} {w : World} (h : Soft BI Y w) {b : Nat} {o : Obj} (hb : w.heap[b]? = some o) (ho : ∀ cs T z, o = .cells cs T z → ((T = 187 ∨ T = 116) → b ∉ @barB BI) ∧ T ∉ softL) : b ∉ Y := by
  intro hm
  obtain ⟨cs, T, z, h1, h2⟩ := h b hm
  rw [hb] at h1
  cases h1
  obtain ⟨o1, o2⟩ := ho _ _ _ rfl
  rcases h2 with ⟨h2, h3⟩ | h2
  · exact o1 h2 h3
  · exact o2 h2
theorem Soft.var {BI : Inhabited Bar} {Y : List Nat} {w : World} (h : Soft BI Y w) : ∀ y ∈ Y, ∀ N u nm, w.heap[y]? ≠ some (varO N u nm) := fun y hy N u nm e => h.not e (by
  intro cs T z e
  simp only [varO, Obj.cells.injEq] at e
  obtain ⟨_, rfl, _⟩ := e
  exact ⟨fun h => by rcases h with h | h <;> exact absurd h (by decide), by decide⟩) hy
theorem Soft.add {BI : Inhabited Bar} {X Y : List Nat} {w : World} (h : Soft BI Y w) : Soft (barX BI X) Y w := fun y hy => by
  obtain ⟨cs, T, z, h1, h2⟩ := h y hy
  exact ⟨cs, T, z, h1, h2.imp (fun h => ⟨h.1, mem_barX.2 (.inr h.2)⟩) id⟩
theorem SoftF.fill {BI : Inhabited Bar} {Y : List Nat} {w : World} (h : SoftF BI Y w) : ∀ y ∈ Y, ∃ cs T z, w.heap[y]? = some (.cells cs T z) ∧ (T = 187 ∨ T = 116 ∨ T = 119 ∨ T = 323) := fun y hy => by
  obtain ⟨cs, T, z, h1, h2⟩ := h y hy
  refine ⟨cs, T, z, h1, ?_⟩
  rcases h2 with ⟨h2 | h2, _⟩ | h2 | h2
  · exact .inl h2
  · exact .inr (.inl h2)
  · exact .inr (.inr (.inl h2))
  · exact .inr (.inr (.inr h2))
theorem soft_nil (BI : Inhabited Bar) (w : World) : SoftF BI [] w := fun _ h => by cases h
theorem TyE.soft [Inhabited Low] [BI : Inhabited Bar] {Y : List Nat} {vb : List Nat} {w w' : World} (k : Keeps Y w w') (hS : Soft BI Y w) : ∀ {t : Ty} {v : Value}, TyE vb w t v → TyE vb w' t v := by
  have hc : ∀ {c : Nat} {kk : Bytes} {sv : Value}, ConE w c kk sv → ConE w' c kk sv := fun h => ⟨h.1, k.some h.2 (hS.not h.2 (by intro cs T z e; cases e; exact ⟨fun _ => h.1, by decide⟩))⟩
  have hr : ∀ {sv : Value} {vs : List Value}, RowE w sv vs → RowE w' sv vs := fun h => by
    obtain ⟨g, cap, cs, h1, h2, h3, h4⟩ := h
    exact ⟨g, cap, cs, h1, h2, k.some h3 (hS.not h3 (by intro cs T z e; cases e; exact ⟨fun _ => h2, by decide⟩)), h4⟩
  intro t
  induction t with
  | var n => rintro v ⟨b, nm, h1, h2, f, h⟩; exact ⟨b, nm, h1, h2, f.still k hS.var, k.some h fun hm => hS.var _ hm _ _ _ h⟩
  | int => rintro v ⟨c, f, h⟩; exact ⟨c, f.still k hS.var, hc h⟩
  | bool => rintro v ⟨c, f, h⟩; exact ⟨c, f.still k hS.var, hc h⟩
  | list a ih => rintro v ⟨c, sv, va, f, h1, h2, h3⟩; exact ⟨c, sv, va, f.still k hS.var, hc h1, hr h2, ih h3⟩
  | pair a b iha ihb => rintro v ⟨c, sv, va, vc, f, h1, h2, h3, h4⟩; exact ⟨c, sv, va, vc, f.still k hS.var, hc h1, hr h2, iha h3, ihb h4⟩
  | arr a b iha ihb => rintro v ⟨c, sv, va, vc, f, h1, h2, h3, h4⟩; exact ⟨c, sv, va, vc, f.still k hS.var, hc h1, hr h2, iha h3, ihb h4⟩
theorem TyE.turnS [Inhabited Low] {BI : Inhabited Bar} {X Y vb : List Nat} {w w' : World} (k : Keeps Y w w') (hS : Soft BI Y w) (hX : ∀ x ∈ X, w.heap.size ≤ x) {t : Ty} {v : Value} (h : @TyE _ BI vb w t v) : @TyE _ (barX BI X) vb w' t v :=
  @TyE.soft _ (barX BI X) Y vb w w' k hS.add t v (h.add hX)
theorem SetAt.soft {BI : Inhabited Bar} {Y : List Nat} {w w' : World} {l : List Nat} {m : Value} (k : Keeps Y w w') (hS : Soft BI Y w) (h : SetAt w l m) : SetAt w' l m := by
  rcases h with h | ⟨b, n, rfl, h⟩
  · exact .inl h
  · obtain ⟨es, cl, ho⟩ := h.obj
    exact .inr ⟨b, n, rfl, h.same ((k.some ho (hS.not ho (by intro cs T z e; cases e))).trans ho.symm)⟩
theorem SchAt.turn [Inhabited Low] {BI : Inhabited Bar} {X Y vb : List Nat} {S : Sub} {w w' : World} (k : Keeps Y w w') (hS : Soft BI Y w) (hX : ∀ x ∈ X, w.heap.size ≤ x) {s : Sch} {t m : Value} (h : @SchAt _ BI vb S w s t m) : @SchAt _ (barX BI X) vb S w' s t m :=
  ⟨h.1.turnS k hS hX, h.2.soft k hS⟩
theorem SchAt.less [Inhabited Low] {BI : Inhabited Bar} {X vb : List Nat} {S : Sub} {w : World} {s : Sch} {t m : Value} (h : @SchAt _ (barX BI X) vb S w s t m) : @SchAt _ BI vb S w s t m := ⟨h.1.less, h.2⟩
theorem EnvAt.turn [Inhabited Low] {BI : Inhabited Bar} {X Y vb : List Nat} {S : Sub} {w w' : World} (k : Keeps Y w w') (hS : Soft BI Y w) (hX : ∀ x ∈ X, w.heap.size ≤ x) : ∀ {env : Env} {v : Value}, @EnvAt _ BI vb S w env v → @EnvAt _ (barX BI X) vb S w' env v
  | [], _, h => h
  | (x, s) :: r, _, ⟨b, up, t, m, h1, h2, h3, h4⟩ => ⟨b, up, t, m, h1, k.some h2 (hS.not h2 (by intro cs T z e; cases e; exact ⟨fun h => by rcases h with h | h <;> exact absurd h (by decide), by decide⟩)), h3.turn k hS hX, EnvAt.turn k hS hX h4⟩
theorem EnvAt.less [Inhabited Low] {BI : Inhabited Bar} {X vb : List Nat} {S : Sub} {w : World} : ∀ {env : Env} {v : Value}, @EnvAt _ (barX BI X) vb S w env v → @EnvAt _ BI vb S w env v
  | [], _, h => h
  | _ :: _, _, ⟨b, up, t, m, h1, h2, h3, h4⟩ => ⟨b, up, t, m, h1, h2, h3.less, EnvAt.less h4⟩
theorem Eng.turn [Inhabited Low] {BI : Inhabited Bar} {X Y vb : List Nat} {ab : Nat} {S : Sub} {w w' : World} (k : Keeps Y w w') (hS : Soft BI Y w) (hX : ∀ x ∈ X, w.heap.size ≤ x ∧ x < w'.heap.size) (h : @Eng _ BI ab vb S w) : @Eng _ (barX BI X) ab vb S w' := by
  obtain ⟨e1, e2, e3, e4, e5, e6, e7⟩ := h
  exact @Eng.mk _ (barX BI X) _ _ _ _ e1 e2 (Nat.le_trans e3 k.size) (fun x hx => (mem_barX.1 hx).elim (fun h => (hX x h).2) (fun h => Nat.lt_of_lt_of_le (e4 x h) k.size))
      (fun i b t hb ht => (e5 i b t hb ht).turnS k hS fun x hx => (hX x hx).1) e6 (k.some e7 (hS.not e7 (by intro cs T z e; cases e; exact ⟨fun h => by rcases h with h | h <;> exact absurd h (by decide), by decide⟩)))
theorem Eng.less [Inhabited Low] {BI : Inhabited Bar} {X vb : List Nat} {ab : Nat} {S : Sub} {w : World} (h : @Eng _ (barX BI X) ab vb S w) : @Eng _ BI ab vb S w := by
  obtain ⟨e1, e2, e3, e4, e5, e6, e7⟩ := h
  exact @Eng.mk _ BI _ _ _ _ e1 e2 e3 (fun x hx => e4 x (mem_barX.2 (.inr hx))) (fun i b t hb ht => (e5 i b t hb ht).less) e6 e7
theorem Inv.turn [Inhabited Low] {BI : Inhabited Bar} {X Y : List Nat} {a : Nat → Addr} {B lo hi gb ab fuel : Nat} {each : Value} {wst : List Told → World → Prop} {vb : List Nat} {st : St} {env : Env} {ev : Value} {w w' : World} (I : @Inv _ BI a B lo hi gb ab fuel each wst vb st env ev w)
    (k : Keeps Y w w') (hS : Soft BI Y w) (hY : ∀ y ∈ Y, B ≤ y) (hX : ∀ x ∈ X, w.heap.size ≤ x ∧ x < w'.heap.size) {l : List Told} (hw : wst l w') : @Inv _ (barX BI X) a B lo hi gb ab fuel each wst vb ⟨st.S, l⟩ env ev w' := by
  obtain ⟨i1, i2, i3, i4, i5, i6⟩ := I
  refine @Inv.mk _ (barX BI X) _ _ _ _ _ _ _ _ _ _ _ _ _ _ (i1.keeps k hY) (k.some i2 (hS.not i2 (by intro cs T z e; cases e; exact ⟨fun h => by rcases h with h | h <;> exact absurd h (by decide), by decide⟩))) (Nat.le_trans i3 k.size)
    (i4.turn k hS hX) (i5.turn k hS fun x hx => (hX x hx).1) hw
theorem Inv.less [Inhabited Low] {BI : Inhabited Bar} {X : List Nat} {a : Nat → Addr} {B lo hi gb ab fuel : Nat} {each : Value} {wst : List Told → World → Prop} {vb : List Nat} {st : St} {env : Env} {ev : Value} {w : World} (I : @Inv _ (barX BI X) a B lo hi gb ab fuel each wst vb st env ev w) : @Inv _ BI a B lo hi gb ab fuel each wst vb st env ev w := by
  obtain ⟨i1, i2, i3, i4, i5, i6⟩ := I
  exact @Inv.mk _ BI _ _ _ _ _ _ _ _ _ _ _ _ _ _ i1 i2 i3 i4.less i5.less i6

/-! ### Rows of schemes -/
/-- A row of n schemes, two cells each; the first of them are these. -/
def SchRow [Inhabited Low] [Inhabited Bar] (vb : List Nat) (S : Sub) (w : World) (g n : Nat) (ss : List Sch) : Prop :=
  ∃ cs, w.heap[g]? = some (.cells cs 119 (0, 0)) ∧ cs.size = n * 2 ∧ ∀ (k : Nat) s, ss[k]? = some s → ∃ t m, cs[k * 2]? = some t ∧ cs[k * 2 + 1]? = some m ∧ SchAt vb S w s t m
theorem SchRow.at [Inhabited Low] [Inhabited Bar] {vb : List Nat} {S : Sub} {w : World} {g n : Nat} {ss : List Sch} (h : SchRow vb S w g n ss) {k : Nat} {s : Sch} (hs : ss[k]? = some s) : ∃ t m, w.cell? ⟨g, k * 2, none⟩ = some t ∧ w.cell? ⟨g, k * 2 + 1, none⟩ = some m ∧ SchAt vb S w s t m := by
  obtain ⟨cs, h1, _, h2⟩ := h
  obtain ⟨t, m, e1, e2, h3⟩ := h2 k s hs
  refine ⟨t, m, ?_, ?_, h3⟩
  · rw [cell_of_block h1 (k * 2)]; exact e1
  · rw [cell_of_block h1 (k * 2 + 1)]; exact e2
theorem SchRow.stp [Inhabited Low] [Inhabited Bar] {M vb vb' : List Nat} {S S' : Sub} {w w' : World} {g n : Nat} {ss : List Sch} (h : SchRow vb S w g n ss) (k : Stp M vb S w vb' S' w') (hM : Side M w) (hg : g ∉ M) : SchRow vb' S' w' g n ss := by
  obtain ⟨cs, h1, hz, h2⟩ := h
  refine ⟨cs, k.k0.block _ _ h1 hg (fun N u nm e => by simp only [varO, Obj.cells.injEq] at e; exact absurd e.2.1 (by decide)), hz, fun j s hs => ?_⟩
  obtain ⟨t, m, e1, e2, h3⟩ := h2 j s hs
  exact ⟨t, m, e1, e2, k.ty _ _ h3.1, h3.2.keep k.k0 hM⟩
theorem SchRow.turn [Inhabited Low] {BI : Inhabited Bar} {X Y vb : List Nat} {S : Sub} {w w' : World} {g n : Nat} {ss : List Sch} (h : @SchRow _ BI vb S w g n ss) (k : Keeps Y w w') (hS : Soft BI Y w) (hg : g ∉ Y) (hX : ∀ x ∈ X, w.heap.size ≤ x) : @SchRow _ (barX BI X) vb S w' g n ss := by
  obtain ⟨cs, h1, hz, h2⟩ := h
  refine ⟨cs, k.some h1 hg, hz, fun j s hs => ?_⟩
  obtain ⟨t, m, e1, e2, h3⟩ := h2 j s hs
  exact ⟨t, m, e1, e2, h3.turn k hS hX⟩
theorem SchRow.less [Inhabited Low] {BI : Inhabited Bar} {X vb : List Nat} {S : Sub} {w : World} {g n : Nat} {ss : List Sch} (h : @SchRow _ (barX BI X) vb S w g n ss) : @SchRow _ BI vb S w g n ss := by
  obtain ⟨cs, h1, hz, h2⟩ := h
  refine ⟨cs, h1, hz, fun j s hs => ?_⟩
  obtain ⟨t, m, e1, e2, h3⟩ := h2 j s hs
  exact ⟨t, m, e1, e2, h3.less⟩
/-- One scheme more is laid in a row. -/
theorem row_keeps (w : World) (g j : Nat) (t m : Value) : Keeps [g] w ((w.setCell ⟨g, j, none⟩ t).setCell ⟨g, j + 1, none⟩ m) := ((Keeps.refl [g] w).setCell (.inl (by simp)) t).setCell (.inl (by simp)) m
theorem row_soft [BI : Inhabited Bar] {w : World} {g : Nat} {cs : Array Value} (h : w.heap[g]? = some (.cells cs 119 (0, 0))) : SoftF BI [g] w := fun y hy => by
  simp only [List.mem_singleton] at hy
  subst hy
  exact ⟨_, _, _, h, .inr (.inl rfl)⟩
theorem SchRow.put [Inhabited Low] [BI : Inhabited Bar] {vb : List Nat} {S : Sub} {w : World} {g n : Nat} {ss : List Sch} (h : SchRow vb S w g n ss) (hl : ss.length < n) {s : Sch} {t m : Value} (hs : SchAt vb S w s t m) :
    SchRow vb S ((w.setCell ⟨g, ss.length * 2, none⟩ t).setCell ⟨g, ss.length * 2 + 1, none⟩ m) g n (ss ++ [s]) := by
  obtain ⟨cs, h1, hz, h2⟩ := h
  have hS := row_soft (BI := BI) h1
  have hk := row_keeps w g (ss.length * 2) t m
  refine ⟨_, block_setCell (block_setCell h1 _ t) _ m, by simpa using hz, fun k s' hs' => ?_⟩
  rcases Nat.lt_trichotomy k ss.length with hlt | rfl | hgt
  · rw [List.getElem?_append_left hlt] at hs'
    obtain ⟨t', m', e1, e2, h3⟩ := h2 k s' hs'
    refine ⟨t', m', ?_, ?_, SchAt.turn (X := []) hk hS.soft (by simp) h3⟩
    · rw [Array.getElem?_setIfInBounds_ne (by omega), Array.getElem?_setIfInBounds_ne (by omega)]; exact e1
    · rw [Array.getElem?_setIfInBounds_ne (by omega), Array.getElem?_setIfInBounds_ne (by omega)]; exact e2
  · rw [List.getElem?_append_right (Nat.le_refl _)] at hs'
    simp at hs'
    subst hs'
    refine ⟨t, m, ?_, ?_, SchAt.turn (X := []) hk hS.soft (by simp) hs⟩
    · rw [Array.getElem?_setIfInBounds_ne (by omega), Array.getElem?_setIfInBounds_self_of_lt (by omega)]
    · rw [Array.getElem?_setIfInBounds_self_of_lt (by simp; omega)]
  · rw [List.getElem?_eq_none (by simp; omega)] at hs'
    cases hs'

/-! ### A row of types while it is filled -/
structure BodSt [Inhabited Low] (BI : Inhabited Bar) (a : Nat → Addr) (B lo hi gb ab fuel : Nat) (each : Value) (Mw : List Nat) (wst : List Told → World → Prop) (env : Env) (ev : Value) (vb0 : List Nat) (S0 : Sub) (w0 : World) (vb : List Nat) (st : St) (ts : List Ty) (vs : List Value) (sl : Value) (X : List Nat) (w : World) : Prop where
  lo0 : lowB ≤ w0.heap.size
  gx : ∀ k, sl.ownBlock = some k → k ∈ X
  xl : ∀ x ∈ X, w0.heap.size ≤ x
  inv : @Inv _ (barX BI X) a B lo hi gb ab fuel each wst vb st env ev w
  ts_ : ∀ (j : Nat) t v, ts[j]? = some t → vs[j]? = some v → @TyE _ (barX BI X) vb w (t.ap st.S) v
  ty : ∀ (t : Ty) v, @TyE _ BI vb0 w0 (t.ap S0) v → @TyE _ (barX BI X) vb w (t.ap st.S) v
  ext : ∃ m, vb = vb0 ++ m
  len : ts.length = vs.length
  row : w.ownsRow w0.heap.size 116 1 sl vs.length vs
  k0 : K0 (ab :: Mw) w0 w
  nil : vs = [] → sl = .slice none 0 0
section
variable [Inhabited Low] {BI : Inhabited Bar} {a : Nat → Addr} {B lo hi gb ab fuel : Nat} {each : Value} {Mw : List Nat} {wst : List Told → World → Prop} {env : Env} {ev : Value} {vb0 : List Nat} {S0 : Sub} {w0 : World} {vb vb' : List Nat} {st st' : St} {ts : List Ty} {vs : List Value} {sl : Value} {X : List Nat} {w w' : World}
theorem BodSt.begin {w : World} {st : St} (_R : Rig a B lo hi gb ab Mw wst) (I : @Inv _ BI a B lo hi gb ab fuel each wst vb st env ev w) : BodSt BI a B lo hi gb ab fuel each Mw wst env ev vb st.S w vb st [] [] (.slice none 0 0) [] w := by
  have h : @Inv _ (barX BI []) a B lo hi gb ab fuel each wst vb st env ev w := (by obtain ⟨_, _, _, _, _, i6⟩ := id I; exact I.turn (Keeps.refl [] w) (soft_nil BI w).soft (by simp) (by simp) i6)
  obtain ⟨_, _, _, i4, _, _⟩ := I
  obtain ⟨_, _, i5, _, _, _, _⟩ := i4
  exact ⟨i5, fun k h => by simp [Value.ownBlock] at h, by simp, h, fun j t v h => by simp at h, fun t v h => h.turnS (X := []) (Keeps.refl [] w) (soft_nil BI w).soft (by simp), ⟨[], by simp⟩, rfl, World.ownsRow_nil _ _ _ _, K0.refl _ _, fun _ => rfl⟩
theorem BodSt.call (R : Rig a B lo hi gb ab Mw wst) (h : BodSt BI a B lo hi gb ab fuel each Mw wst env ev vb0 S0 w0 vb st ts vs sl X w) (hs : @Stp _ (barX BI X) (ab :: Mw) vb st.S w vb' st'.S w') (he : @Eng _ (barX BI X) ab vb' st'.S w') (hw : wst st'.told w') :
    BodSt BI a B lo hi gb ab fuel each Mw wst env ev vb0 S0 w0 vb' st' ts vs sl X w' := by
  obtain ⟨h0, h1, h2, h3, h4, h5, h6, h7, h8, h9, h10⟩ := h
  have hs' := hs
  obtain ⟨s1, s2, s3⟩ := hs'
  refine ⟨h0, h1, h2, @Inv.step _ (barX BI X) _ _ _ _ _ _ _ _ _ _ R _ _ _ _ _ _ _ _ h3 hs he hw, fun j t v e1 e2 => s3 _ _ (h4 j t v e1 e2), fun t v e => s3 _ _ (h5 t v e), ?_, h7, ?_, h9.transM s1, h10⟩
  · obtain ⟨m, rfl⟩ := h6; obtain ⟨m', rfl⟩ := s2; exact ⟨m ++ m', by simp⟩
  · refine ⟨h8.1, h8.2.imp id ?_⟩
    rintro ⟨g, cap, cur, e1, e2, e3, e4⟩
    exact ⟨g, cap, cur, e1, e2, s1.con _ _ _ _ e3 (.inr rfl), e4⟩
theorem BodSt.push (R : Rig a B lo hi gb ab Mw wst) (h : BodSt BI a B lo hi gb ab fuel each Mw wst env ev vb0 S0 w0 vb st ts vs sl X w) {t : Ty} {v : Value} (ht : @TyE _ (barX BI X) vb w (t.ap st.S) v) {w2 w3 : World} (hk : Keeps [] w w2) (g cap : Nat)
    (ho : w3.ownsRow w0.heap.size 116 1 (.slice (some ⟨g, 0, none⟩) (vs.length + 1) cap) (vs.length + 1) (vs ++ [v])) (hg : w2.grownBy w3 sl.ownBlock) (hl : sl.ownBlock = some g ∨ w.heap.size ≤ g) :
    ∃ X', BodSt BI a B lo hi gb ab fuel each Mw wst env ev vb0 S0 w0 vb st (ts ++ [t]) (vs ++ [v]) (.slice (some ⟨g, 0, none⟩) (vs.length + 1) cap) X' w3 := by
  obtain ⟨h0, h1, h2, h3, h4, h5, h6, h7, h8, h9, h10⟩ := h
  have hrl := h8.lt
  have hgl := ho.lt g rfl
  have hsz := hk.size
  have hsz2 := hg.size
  have hkk : Keeps sl.ownBlock.toList w w3 := (hk.mono (M' := sl.ownBlock.toList) (by simp)).grown hg (fun k e => .inl (by simp [e]))
  have hSF : SoftF (barX BI X) sl.ownBlock.toList w := by
    intro y hy
    simp only [Option.mem_toList] at hy
    rcases h8.2 with ⟨rfl, _⟩ | ⟨g', cap', cur, rfl, _, e3, _⟩
    · simp [Value.ownBlock] at hy
    · have hx := h1 y hy
      simp only [Value.ownBlock, Option.some.injEq] at hy
      subst hy
      exact ⟨_, _, _, e3, .inl ⟨.inr rfl, mem_barX.2 (.inl hx)⟩⟩
  have hS := hSF.soft
  have hwl : wst st.told w3 := by
    obtain ⟨_, _, _, _, _, i6⟩ := id h3
    exact R.wat.fill _ _ _ _ i6 hkk hSF.fill
  have hBy : ∀ y ∈ sl.ownBlock.toList, B ≤ y := by
    intro y hy
    simp only [Option.mem_toList] at hy
    have := (hrl _ hy).1
    have := R.bl
    omega
  have hrow : w3.ownsRow w0.heap.size 116 1 (.slice (some ⟨g, 0, none⟩) (vs.length + 1) cap) (vs ++ [v]).length (vs ++ [v]) := by
    rw [show (vs ++ [v]).length = vs.length + 1 by simp]
    exact ho
  have hk0 : K0 (ab :: Mw) w0 w3 := h9.tail hkk fun y hy => by
    simp only [Option.mem_toList] at hy
    exact (hrl _ hy).1
  have hts : ∀ (BJ : Inhabited Bar), (∀ t v, @TyE _ (barX BI X) vb w t v → @TyE _ BJ vb w3 t v) → ∀ (j : Nat) t' v', (ts ++ [t])[j]? = some t' → (vs ++ [v])[j]? = some v' → @TyE _ BJ vb w3 (t'.ap st.S) v' := by
    intro BJ hb j t' v' e1 e2
    refine hb _ v' ?_
    rcases Nat.lt_trichotomy j ts.length with hj | hj | hj
    · rw [List.getElem?_append_left hj] at e1
      rw [List.getElem?_append_left (by omega)] at e2
      exact h4 j t' v' e1 e2
    · subst hj
      rw [List.getElem?_append_right (Nat.le_refl _)] at e1
      rw [h7, List.getElem?_append_right (Nat.le_refl _)] at e2
      simp at e1 e2
      subst e1
      subst e2
      exact ht
    · rw [List.getElem?_eq_none (by simp; omega)] at e1
      cases e1
  by_cases hold : sl.ownBlock = some g
  · have hB := fun t v (h : @TyE _ (barX BI X) vb w t v) => TyE.turnS (X := []) hkk hS (by simp) h
    exact ⟨X, h0, fun k e => by simp only [Value.ownBlock, Option.some.injEq] at e; subst e; exact h1 _ hold, h2, h3.turn (X := []) hkk hS hBy (by simp) hwl, hts _ hB, fun t v e => hB _ _ (h5 t v e), h6, by simp [h7], hrow, hk0, by simp⟩
  · have hgw : w.heap.size ≤ g := hl.resolve_left hold
    have hX : ∀ x ∈ [g], w.heap.size ≤ x ∧ x < w3.heap.size := by
      intro x hx
      simp only [List.mem_singleton] at hx
      subst hx
      exact ⟨hgw, hgl.2⟩
    have hB := fun t v (h : @TyE _ (barX BI X) vb w t v) => TyE.turnS (X := [g]) hkk hS (fun x hx => (hX x hx).1) h
    exact ⟨g :: X, h0, fun k e => by simp only [Value.ownBlock, Option.some.injEq] at e; subst e; simp, fun x hx => by
      rcases List.mem_cons.1 hx with rfl | hx
      · have := h9.size; omega
      · exact h2 x hx, h3.turn (X := [g]) hkk hS hBy hX hwl, hts _ hB, fun t v e => hB _ _ (h5 t v e), h6, by simp [h7], hrow, hk0, by simp⟩
theorem BodSt.done (h : BodSt BI a B lo hi gb ab fuel each Mw wst env ev vb0 S0 w0 vb st ts vs sl X w) : @Inv _ BI a B lo hi gb ab fuel each wst vb st env ev w ∧ @Stp _ BI (ab :: Mw) vb0 S0 w0 vb st.S w ∧ ∀ (j : Nat) t v, ts[j]? = some t → vs[j]? = some v → @TyE _ BI vb w (t.ap st.S) v := by
  obtain ⟨h0, h1, h2, h3, h4, h5, h6, h7, h8, h9, h10⟩ := h
  exact ⟨h3.less, @Stp.mk _ BI _ _ _ _ _ _ _ h9 h6 fun t v e => (h5 t v e).less, fun j t v e1 e2 => (h4 j t v e1 e2).less⟩
end
end Go.Proofs.YtpbplpnifjbkoabGreatDoor

namespace Go.Proofs.YtpbplpnifjbkoabGreatDoor

theorem M.assoc {α β γ : Type} (m : M α) (f : α → St → M β) (g : β → St → M γ) : (m.bind f).bind g = m.bind fun a s => (f a s).bind g := by
  cases m with
  | none => rfl
  | some r =>
    cases r with
    | error p => rfl
    | ok q => rfl
theorem M.id_ {α : Type} (m : M α) (f : α → St → M α) (h : ∀ a s, f a s = some (.ok (a, s))) : m.bind f = m := by
  cases m with
  | none => rfl
  | some r =>
    cases r with
    | error p => rfl
    | ok q => exact h _ _
/-- The bodies' types, one behind the other. -/
def bodiesL (uf fuel : Nat) (watch : Option Nat) : List Exp → Env → St → M (List Ty)
  | [], _, st => some (.ok ([], st))
  | a :: r, env, st => (ofE uf fuel watch a env st).bind fun t st => (bodiesL uf fuel watch r env st).bind fun l st => some (.ok (t :: l, st))
theorem bodies_list (uf fuel : Nat) (watch : Option Nat) (g : Exp) : ∀ (env : Env) (st : St), bodiesE uf fuel watch g env st = bodiesL uf fuel watch (gBodies g) env st := by
  induction g with
  | bnd x a g _ ih =>
    intro env st
    simp only [bodiesE, gBodies, bodiesL]
    congr 1
    funext t s
    rw [ih]
  | _ => intro env st; simp [bodiesE, gBodies, bodiesL]
theorem for_of (uf fuel : Nat) (watch : Option Nat) (g : Exp) (h : wfE true g = true) : ∀ (env : Env) (st : St), forE uf fuel watch g env st = ofE uf fuel watch (gFor g) env st := by
  induction g with
  | bnd x a g _ ih =>
    intro env st
    simp only [wfE, Bool.and_eq_true] at h
    simp only [forE, gFor]
    exact ih h.2 env st
  | fin b _ => intro env st; simp [forE, gFor]
  | _ => simp [wfE] at h
/-- What is left of the bodies, behind what was found of those ahead. -/
def bodR (uf fuel : Nat) (watch : Option Nat) (l : List Exp) (env : Env) (st : St) (ts : List Ty) : M (List Ty) := (bodiesL uf fuel watch l env st).bind fun l st => some (.ok (ts ++ l, st))
theorem bodR_begin (uf fuel : Nat) (watch : Option Nat) (l : List Exp) (env : Env) (st : St) : bodR uf fuel watch l env st [] = bodiesL uf fuel watch l env st := M.id_ _ _ fun _ _ => rfl
theorem bodR_nil (uf fuel : Nat) (watch : Option Nat) (env : Env) (st : St) (ts : List Ty) : bodR uf fuel watch [] env st ts = some (.ok (ts, st)) := by simp [bodR, bodiesL, M.bind]
theorem bodR_cons (uf fuel : Nat) (watch : Option Nat) (a : Exp) (l : List Exp) (env : Env) (st : St) (ts : List Ty) : bodR uf fuel watch (a :: l) env st ts = (ofE uf fuel watch a env st).bind fun t st => bodR uf fuel watch l env st (ts ++ [t]) := by
  simp only [bodR, bodiesL, M.assoc]
  congr 1
  funext t s
  congr 1
  funext u s'
  simp [M.bind]
/-- What is left of the fresh ones. -/
def startR (k : Nat) (S : Sub) (ss : List Sch) : Option (List Sch × Sub) := (starts k S).bind fun q => some (ss ++ q.1, q.2)
theorem startR_begin (k : Nat) (S : Sub) : startR k S [] = starts k S := by
  unfold startR
  cases starts k S <;> simp
theorem startR_zero (S : Sub) (ss : List Sch) : startR 0 S ss = some (ss, S) := by simp [startR, starts]
theorem startR_succ (k : Nat) (S : Sub) (ss : List Sch) : startR (k + 1) S ss = if S.length < 100000 then startR k (S ++ [.var (S.length + 1)]) (ss ++ [⟨.var (S.length + 1), [S.length + 1]⟩]) else none := by
  simp only [startR, starts, fresh]
  split
  · simp only [Option.bind_some]
    cases starts k (S ++ [.var (S.length + 1)]) <;> simp
  · rfl
theorem starts_len : ∀ (k : Nat) (S : Sub) (p : List Sch × Sub), starts k S = some p → p.1.length = k := by
  intro k
  induction k with
  | zero => intro S p h; cases h; rfl
  | succ k ih =>
    intro S p h
    simp only [starts] at h
    obtain ⟨q, _, h2⟩ := Option.bind_eq_some_iff.1 h
    obtain ⟨u, hu, h3⟩ := Option.bind_eq_some_iff.1 h2
    cases h3
    simp [ih _ _ hu]
theorem bindAll_cons (n : Bytes) (ns : List Bytes) (s : Sch) (ss : List Sch) (e : Env) : bindAll (n :: ns) (s :: ss) e = bindAll ns ss ((n, s) :: e) := rfl
theorem bindAll_nil (ss : List Sch) (e : Env) : bindAll [] ss e = e := rfl
theorem bindAll_next {ns : List Bytes} {ss : List Sch} {j : Nat} {n : Bytes} {s : Sch} (hn : ns[j]? = some n) (hs : ss[j]? = some s) (e : Env) : bindAll (ns.drop j) (ss.drop j) e = bindAll (ns.drop (j + 1)) (ss.drop (j + 1)) ((n, s) :: e) := by
  obtain ⟨h1, rfl⟩ := List.getElem?_eq_some_iff.1 hn
  obtain ⟨h2, rfl⟩ := List.getElem?_eq_some_iff.1 hs
  rw [List.drop_eq_getElem_cons h1, List.drop_eq_getElem_cons h2]
  rfl
theorem allAlike_nil (S : Sub) : allAlike S [] [] = true := rfl
theorem allAlike_next {S : Sub} : ∀ {ss nx : List Sch} {s n : Sch}, ss.length = nx.length → allAlike S (ss ++ [s]) (nx ++ [n]) = (allAlike S ss nx && alikeS S s n)
  | [], [], s, n, _ => by simp [allAlike]
  | a :: r, b :: q, s, n, h => by
    simp only [List.cons_append, allAlike]
    rw [allAlike_next (by simpa using h), Bool.and_assoc]
theorem any_great {S : Sub} {env : Env} {l : List Ty} (h : l.any (tooGreat S env) = false) {j : Nat} {t : Ty} (ht : l[j]? = some t) : tooGreat S env t = false := by
  rw [List.any_eq_false] at h
  exact eq_false_of_ne_true (h t (List.mem_of_getElem? ht))
end Go.Proofs.YtpbplpnifjbkoabGreatDoor

namespace Go.Proofs.YtpbplpnifjbkoabGreatDoor
open Go.RowKit

/-- The boxes of a group's rounds: the environment, the group, the schemes; the row of schemes g. -/
structure RecB (ebx ybx sbx b g n : Nat) (ev : Value) (w : World) : Prop where
  eb : w.heap[ebx]? = some (.cells #[ev] 114)
  yb : w.heap[ybx]? = some (.cells #[.pointer (some ⟨b, 0, none⟩)] 218)
  sb : w.heap[sbx]? = some (.cells #[.slice (some ⟨g, 0, none⟩) n n] 323)
theorem RecB.k0 [Inhabited Low] {ebx ybx sbx b g n : Nat} {ev : Value} {M : List Nat} {w w' : World} (h : RecB ebx ybx sbx b g n ev w) (k : K0 M w w') (hM : ebx ∉ M ∧ ybx ∉ M ∧ sbx ∉ M) : RecB ebx ybx sbx b g n ev w' :=
  ⟨k.block _ _ h.eb hM.1 (fun N u nm e => by simp only [varO, Obj.cells.injEq] at e; exact absurd e.2.1 (by decide)), k.block _ _ h.yb hM.2.1 (fun N u nm e => by simp only [varO, Obj.cells.injEq] at e; exact absurd e.2.1 (by decide)), k.block _ _ h.sb hM.2.2 (fun N u nm e => by simp only [varO, Obj.cells.injEq] at e; exact absurd e.2.1 (by decide))⟩
theorem RecB.keeps {ebx ybx sbx b g n : Nat} {ev : Value} {Y : List Nat} {w w' : World} (h : RecB ebx ybx sbx b g n ev w) (k : Keeps Y w w') (hM : ebx ∉ Y ∧ ybx ∉ Y ∧ sbx ∉ Y) : RecB ebx ybx sbx b g n ev w' :=
  ⟨k.some h.eb hM.1, k.some h.yb hM.2.1, k.some h.sb hM.2.2⟩

set_option maxRecDepth 100000 in
set_option maxHeartbeats 4000000 in
theorem bind_any [Inhabited Low] [Inhabited Bar] {vb : List Nat} {S : Sub} {w : World} {ebx ybx sbx b g lo hi : Nat} {ev sn sl vf : Value} {p : Nat} {ns : List Bytes} {ss : List Sch} {env : Env} (hB : RecB ebx ybx sbx b g ss.length ev w) (hb : w.heap[b]? = some (.cells #[.int .i64 p, sn, sl, vf] 221 (0, 0)))
    (hn : RowAt w lo hi 9 sn (ns.map fun x => Value.string (bs x))) (hl : ns.length = ss.length) (hr : SchRow vb S w g ss.length ss) (henv : EnvAt vb S w env ev) :
    Calls Tryz.prog 169 #[.pointer (some ⟨ebx, 0, none⟩), .pointer (some ⟨ybx, 0, none⟩), .pointer (some ⟨sbx, 0, none⟩)] w fun e w' => ∃ v, e = .returned v ∧ EnvAt vb S w' (bindAll ns ss env) v ∧ Keeps [] w w' := by
  obtain ⟨a, rfl⟩ := henv.shape
  have e0 := cell_of_block hB.eb 0
  have y0 := cell_of_block hB.yb 0
  have b1 := cell_of_block hb 1
  simp at e0 y0 b1
  have HB := Lib.hid hB
  have HBB := Lib.hid hb
  have HN := Lib.hid hn
  have HR := Lib.hid hr
  have HENV := Lib.hid henv
  have HL := Lib.hid hl
  have hfew : ns.length ≤ 9223372036854775807 := by
    rcases hn with ⟨_, h⟩ | ⟨g', cap, cur, _, _, _, _, h5, h6, _⟩
    · have : ns = [] := by simpa using h
      subst this
      simp
    · unfold maxLen at h6
      rw [List.length_map] at h5
      omega
  have hsn : ∃ ad cap, sn = .slice ad ns.length cap := by
    rcases hn with ⟨rfl, h⟩ | ⟨g', cap, cur, rfl, _⟩
    · exact ⟨none, 0, by rw [show ns.length = 0 by simpa using h]⟩
    · exact ⟨some ⟨g', 0, none⟩, cap, by simp⟩
  obtain ⟨ad, cap, rfl⟩ := hsn
  have hat : ∀ (j : Nat) (x : Bytes), ns[j]? = some x → ∃ g', ad = some ⟨g', 0, none⟩ ∧ w.cell? ⟨g', j, none⟩ = some (.string (bs x)) := by
    intro j x hj
    rcases hn with ⟨_, h⟩ | ⟨g', cap', cur, h1, _, _, h4, h5, h6, h7, h8⟩
    · simp at h; subst h; simp at hj
    · simp only [Value.slice.injEq] at h1
      refine ⟨g', h1.1, ?_⟩
      rw [cell_of_block h4 j]
      have hjl := (List.getElem?_eq_some_iff.1 hj).1
      have h9 : (cur.toList.take ns.length)[j]? = some (.string (bs x)) := by
        rw [show ns.length = (ns.map fun x => Value.string (bs x)).length by simp, h8, List.getElem?_map, hj]
        rfl
      rw [List.getElem?_take, if_pos hjl] at h9
      simpa using h9
  have HAT := Lib.hid hat
  clear hB hb hn hr henv hat hl
  go_enter Tryz.func169, Tryz.ntmps169
  go_wp2_with fail
  go_loopg [4, 13] ns.length (fun gg iv i wx => ∃ (j : Nat) (envj : Env), gg = ns.length - j ∧ i = .int .i64 j ∧ j ≤ ns.length ∧ bindAll (ns.drop j) (ss.drop j) envj = bindAll ns ss env ∧ EnvAt vb S wx envj iv ∧ Keeps [] w wx)
  case atStart => exact ⟨0, env, rfl, rfl, by omega, rfl, HENV.out, Keeps.refl _ _⟩
  case round =>
    obtain ⟨j, envj, hg, rfl, hj, hba, hen, hk⟩ := hrel
    have HG := Lib.hid hg
    have HBA := Lib.hid hba
    have HEN := Lib.hid hen
    have HK := Lib.hid hk
    obtain ⟨aj, rfl⟩ := hen.shape
    clear hg hba hen
    by_cases hlt : j < ns.length
    · have hdl : decide ((j : Int) < (ns.length : Int)) = true := by simpa using hlt
      have hj2 : j < ss.length := by rw [← HL.out]; exact hlt
      obtain ⟨x, hx⟩ : ∃ x, ns[j]? = some x := ⟨_, List.getElem?_eq_getElem hlt⟩
      obtain ⟨s, hs⟩ : ∃ s, ss[j]? = some s := ⟨_, List.getElem?_eq_getElem hj2⟩
      obtain ⟨g', rfl, hcx⟩ := HAT.out j x hx
      have hcx := hk.cellSome hcx (by simp)
      obtain ⟨t, m, ht, hm, hsch⟩ := HR.out.at hs
      have ht := hk.cellSome ht (by simp)
      have hm := hk.cellSome hm (by simp)
      have s0 : wr.cell? ⟨sbx, 0, none⟩ = some (.slice (some ⟨g, 0, none⟩) ss.length ss.length) := by
        have := cell_of_block (hk.some HB.out.sb (by simp)) 0
        simpa using this
      have hstp := hk.kv0.stp vb S
      have hsch' : SchAt vb S wr s t m := ⟨hstp.ty _ _ hsch.1, hsch.2.keep hstp.k0 (fun m hm => by cases hm)⟩
      obtain ⟨⟨tt, tp, rfl⟩, mm, rfl⟩ := hsch'.shape
      have HNX := Lib.hid (bindAll_next hx hs envj)
      have HCALL := Lib.hid (env_with HEN.out hsch' x)
      have hj3 : (j : Int) < (ss.length : Int) := by omega
      have hj4 : (j : Int) < (ns.length : Int) := by omega
      clear hx hs hsch hsch' hstp hk
      go_wp2_with fail
      refine HCALL.out.mono ?_
      rintro e w2 ⟨b2, rfl, hen2, hk2⟩
      have HEN2 := Lib.hid hen2
      have HK2 := Lib.hid (HK.out.trans0 hk2)
      clear hen2 hk2
      go_wp2_with fail
      go_roundg (ns.length - (j + 1))
      case measure => have := HG.out; omega
      case rel => exact ⟨j + 1, (x, s) :: envj, rfl, by go_num, by omega, by rw [← HBA.out, HNX.out], HEN2.out, HK2.out⟩
    · have hdl : decide ((j : Int) < (ns.length : Int)) = false := by simpa using hlt
      obtain rfl : j = ns.length := by omega
      go_wp2_with fail
      go_ret
      have hba := HBA.out
      rw [List.drop_of_length_le (Nat.le_refl _), bindAll_nil] at hba
      rw [← hba]
      exact ⟨_, rfl, HEN.out, HK.out⟩
end Go.Proofs.YtpbplpnifjbkoabGreatDoor

namespace Go.Proofs.YtpbplpnifjbkoabGreatDoor
open Go.RowKit

theorem uSchs : Tryz.prog.underlying 323 = some (.slice 119) := by kernel_rfl
theorem infoSch : (Tryz.prog.info? 119).map (fun i => (i.zero, i.size, i.bytes)) = some (some (.agg #[.nilIface, .map none]), 2, 24) := by kernel_rfl
theorem make_schemes (n : Nat) (hn : n ≤ 100000) (w : World) : (Instr.makeSlice 323 (.int .i64 (n : Int)) (.int .i64 (n : Int))).run Tryz.prog w = .ok (.slice (some ⟨w.heap.size, 0, none⟩) n n) (w.alloc (.cells (madeCells #[.nilIface, .map none] (n * 2)) 119)) := by
  obtain ⟨i, hi, hi0, hi1, hi2⟩ := info_parts infoSch
  have hb : (i.bytes : Int) * (n : Int) ≤ 281474976710656 := by rw [hi2]; omega
  have hr := run_make (P := Tryz.prog) w 323 119 i (.agg #[.nilIface, .map none]) uSchs hi hi0 .i64 .i64 n n (by omega) (by omega) hb (by omega)
  simp only [Int.toNat_natCast, hi1] at hr
  exact hr
theorem starts_few : ∀ (k : Nat) (S : Sub) (p : List Sch × Sub), starts k S = some p → k ≤ 100000 := by
  have h : ∀ (k : Nat) (S : Sub) (p : List Sch × Sub), starts k S = some p → k = 0 ∨ S.length + k ≤ 100000 := by
    intro k
    induction k with
    | zero => intro S p _; exact .inl rfl
    | succ k ih =>
      intro S p h
      simp only [starts, fresh] at h
      split at h
      · obtain ⟨q, hq, h2⟩ := Option.bind_eq_some_iff.1 h
        cases hq
        obtain ⟨u, hu, _⟩ := Option.bind_eq_some_iff.1 h2
        have := ih _ _ hu
        simp at this
        omega
      · cases h
  intro k S p hp
  have := h k S p hp
  omega

theorem rowC_keeps {w w' : World} {ad : Option Addr} {us : List Value} {Y : List Nat} (k : Keeps Y w w') (hY : ∀ y ∈ Y, ∀ cs, w.heap[y]? ≠ some (.cells cs 116 (0, 0))) (h : RowC w ad us) : RowC w' ad us := fun j v hv => by
  obtain ⟨g, cs, h1, h2, h3⟩ := h j v hv
  exact ⟨g, cs, h1, k.some h2 (fun hm => hY g hm cs h2), h3⟩
theorem own_rowC {w : World} {base n : Nat} {v : Value} {xs : List Value} (h : w.ownsRow base 116 1 v n xs) : ∃ ad cap, v = .slice ad n cap ∧ RowC w ad xs := by
  rcases h.2 with ⟨rfl, rfl⟩ | ⟨g, cap, cur, rfl, _, e3, _, _, _, e4⟩
  · exact ⟨none, 0, rfl, fun j v hj => by have h1 : xs.length = 0 := (by simpa using h.1); have h2 := (List.getElem?_eq_some_iff.1 hj).1; omega⟩
  · refine ⟨_, cap, rfl, fun j v hj => ⟨g, cur, rfl, e3, ?_⟩⟩
    rw [← e4, List.getElem?_take] at hj
    split at hj
    · simpa using hj
    · cases hj
theorem Rig.same [Inhabited Low] {a : Nat → Addr} {B lo hi gb ab : Nat} {Mw : List Nat} {wst : List Told → World → Prop} (R : Rig a B lo hi gb ab Mw wst) {w w' : World} (k : K0 (ab :: Mw) w w') (hh : hi ≤ w.heap.size) : ∀ b, lo ≤ b → b < hi → w'.heap[b]? = w.heap[b]? := fun b h1 h2 => by
  refine k.low b (by have := R.hl; omega) (by omega) fun hm => ?_
  rcases List.mem_cons.1 hm with rfl | hm
  · have := R.ab_; omega
  · have := R.mw b hm; omega
structure GrpSt [Inhabited Low] [Inhabited Bar] (a : Nat → Addr) (B lo hi gb ab fuel : Nat) (each : Value) (Mw : List Nat) (wst : List Told → World → Prop) (env : Env) (ev : Value) (b ebx ybx sbx n : Nat) (vb0 : List Nat) (S0 : Sub) (w0 : World) (vb : List Nat) (st : St) (g : Nat) (ss : List Sch) (w : World) : Prop where
  inv : Inv a B lo hi gb ab fuel each wst vb st env ev w
  bx : RecB ebx ybx sbx b g n ev w
  row : SchRow vb st.S w g n ss
  stp : Stp (ab :: Mw) vb0 S0 w0 vb st.S w
  new : w0.heap.size ≤ ebx ∧ w0.heap.size ≤ ybx ∧ w0.heap.size ≤ sbx ∧ w0.heap.size ≤ g
  old : ∀ m ∈ ab :: Mw, m < w0.heap.size
  lo0 : lowB ≤ w0.heap.size
theorem Stp.soft [Inhabited Low] [BI : Inhabited Bar] {M Y vb0 vb : List Nat} {S0 S : Sub} {w0 w w' : World} (h : Stp M vb0 S0 w0 vb S w) (k : Keeps Y w w') (hS : Soft BI Y w) (hY : ∀ y ∈ Y, w0.heap.size ≤ y) : Stp M vb0 S0 w0 vb S w' :=
  ⟨h.k0.tail k hY, h.ext, fun t v e => (h.ty t v e).soft k hS⟩
section
variable [Inhabited Low] [BI : Inhabited Bar] {a : Nat → Addr} {B lo hi gb ab fuel : Nat} {each : Value} {Mw : List Nat} {wst : List Told → World → Prop} {env : Env} {ev : Value} {b ebx ybx sbx n : Nat} {vb0 : List Nat} {S0 : Sub} {w0 : World} {vb vb' : List Nat} {st st' : St} {g : Nat} {ss : List Sch} {w w' : World}
theorem GrpSt.nin (h : GrpSt a B lo hi gb ab fuel each Mw wst env ev b ebx ybx sbx n vb0 S0 w0 vb st g ss w) {k : Nat} (hk : w0.heap.size ≤ k) : k ∉ ab :: Mw := fun hm => by have := h.old k hm; omega
theorem GrpSt.step (R : Rig a B lo hi gb ab Mw wst) (h : GrpSt a B lo hi gb ab fuel each Mw wst env ev b ebx ybx sbx n vb0 S0 w0 vb st g ss w) (hs : Stp (ab :: Mw) vb st.S w vb' st'.S w') (he : Eng ab vb' st'.S w') (hw : wst st'.told w') :
    GrpSt a B lo hi gb ab fuel each Mw wst env ev b ebx ybx sbx n vb0 S0 w0 vb' st' g ss w' :=
  ⟨h.inv.step R hs he hw, h.bx.k0 hs.k0 ⟨h.nin h.new.1, h.nin h.new.2.1, h.nin h.new.2.2.1⟩, h.row.stp hs (R.side h.inv) (h.nin h.new.2.2.2), h.stp.trans hs, h.new, h.old, h.lo0⟩
theorem GrpSt.kv (R : Rig a B lo hi gb ab Mw wst) (h : GrpSt a B lo hi gb ab fuel each Mw wst env ev b ebx ybx sbx n vb0 S0 w0 vb st g ss w) (k : KV [] w w') :
    GrpSt a B lo hi gb ab fuel each Mw wst env ev b ebx ybx sbx n vb0 S0 w0 vb st g ss w' :=
  h.step R ((k.mono (by simp)).stp vb st.S) (h.inv.eng.kv k (by simp)) (R.wat.keep _ _ _ h.inv.wat (k.k0.mono (by simp)))
theorem GrpSt.own (R : Rig a B lo hi gb ab Mw wst) {Y : List Nat} (h : GrpSt a B lo hi gb ab fuel each Mw wst env ev b ebx ybx sbx n vb0 S0 w0 vb st g ss w) (k : Keeps Y w w') (hS : SoftF BI Y w) (hY : ∀ y ∈ Y, w0.heap.size ≤ y) {g' : Nat} {ss' : List Sch} (hg' : w0.heap.size ≤ g') (hb : RecB ebx ybx sbx b g' n ev w') (hr : SchRow vb st.S w' g' n ss') :
    GrpSt a B lo hi gb ab fuel each Mw wst env ev b ebx ybx sbx n vb0 S0 w0 vb st g' ss' w' :=
  ⟨h.inv.turn (X := []) k hS.soft (fun y hy => by have := hY y hy; have := R.bl; have := h.lo0; omega) (by simp) (R.wat.fill _ _ _ _ h.inv.wat k hS.fill), hb, hr, h.stp.soft k hS.soft hY, ⟨h.new.1, h.new.2.1, h.new.2.2.1, hg'⟩, h.old, h.lo0⟩
theorem GrpSt.boxes (h : GrpSt a B lo hi gb ab fuel each Mw wst env ev b ebx ybx sbx n vb0 S0 w0 vb st g ss w) {k : Nat} {cs : Array Value} {z : Nat × Nat} (hk : w.heap[k]? = some (.cells cs 119 z)) : ebx ∉ [k] ∧ ybx ∉ [k] ∧ sbx ∉ [k] := by
  simp only [List.mem_singleton]
  exact ⟨ne_objE h.bx.eb hk (by intro e; simp only [Obj.cells.injEq] at e; exact absurd e.2.1 (by decide)), ne_objE h.bx.yb hk (by intro e; simp only [Obj.cells.injEq] at e; exact absurd e.2.1 (by decide)), ne_objE h.bx.sb hk (by intro e; simp only [Obj.cells.injEq] at e; exact absurd e.2.1 (by decide))⟩
/-- One scheme more in the row itself (as they begin). -/
theorem GrpSt.push (R : Rig a B lo hi gb ab Mw wst) (h : GrpSt a B lo hi gb ab fuel each Mw wst env ev b ebx ybx sbx n vb0 S0 w0 vb st g ss w) (hl : ss.length < n) {s : Sch} {t m : Value} (hs : SchAt vb st.S w s t m) :
    GrpSt a B lo hi gb ab fuel each Mw wst env ev b ebx ybx sbx n vb0 S0 w0 vb st g (ss ++ [s]) ((w.setCell ⟨g, ss.length * 2, none⟩ t).setCell ⟨g, ss.length * 2 + 1, none⟩ m) := by
  obtain ⟨cs, h1, _⟩ := h.row
  exact h.own R (row_keeps w g _ t m) (row_soft h1) (fun y hy => by simp only [List.mem_singleton] at hy; subst hy; exact h.new.2.2.2) h.new.2.2.2 (h.bx.keeps (row_keeps w g _ t m) (h.boxes h1)) (h.row.put hl hs)

/-- While the next round's schemes are made: the types' row, the row that is filled. -/
structure NxSt [Inhabited Low] [Inhabited Bar] (a : Nat → Addr) (B lo hi gb ab fuel : Nat) (each : Value) (Mw : List Nat) (wst : List Told → World → Prop) (env : Env) (ev : Value) (b ebx ybx sbx n : Nat) (vb0 : List Nat) (S0 : Sub) (w0 : World) (vb : List Nat) (st : St) (g : Nat) (ss : List Sch) (ts : List Ty) (us : List Value) (ad : Option Addr) (gn : Nat) (nx : List Sch) (w : World) : Prop where
  rc : GrpSt a B lo hi gb ab fuel each Mw wst env ev b ebx ybx sbx n vb0 S0 w0 vb st g ss w
  lr : RowC w ad us
  ty : ∀ (j : Nat) t v, ts[j]? = some t → us[j]? = some v → TyE vb w (t.ap st.S) v
  nr : SchRow vb st.S w gn n nx
  gl : w0.heap.size ≤ gn ∧ gn ≠ g
theorem NxSt.kv (R : Rig a B lo hi gb ab Mw wst) {ts : List Ty} {us : List Value} {ad : Option Addr} {gn : Nat} {nx : List Sch} (h : NxSt a B lo hi gb ab fuel each Mw wst env ev b ebx ybx sbx n vb0 S0 w0 vb st g ss ts us ad gn nx w) (k : KV [] w w') :
    NxSt a B lo hi gb ab fuel each Mw wst env ev b ebx ybx sbx n vb0 S0 w0 vb st g ss ts us ad gn nx w' :=
  ⟨h.rc.kv R k, k.k0.rowC h.lr, fun j t v e1 e2 => k.te (h.ty j t v e1 e2), h.nr.stp (k.stp vb st.S) (fun m hm => by cases hm) (by simp), h.gl⟩
theorem NxSt.push (R : Rig a B lo hi gb ab Mw wst) {ts : List Ty} {us : List Value} {ad : Option Addr} {gn : Nat} {nx : List Sch} (h : NxSt a B lo hi gb ab fuel each Mw wst env ev b ebx ybx sbx n vb0 S0 w0 vb st g ss ts us ad gn nx w) (hl : nx.length < n) {s : Sch} {t m : Value} (hs : SchAt vb st.S w s t m) :
    NxSt a B lo hi gb ab fuel each Mw wst env ev b ebx ybx sbx n vb0 S0 w0 vb st g ss ts us ad gn (nx ++ [s]) ((w.setCell ⟨gn, nx.length * 2, none⟩ t).setCell ⟨gn, nx.length * 2 + 1, none⟩ m) := by
  obtain ⟨cs, h1, _⟩ := h.nr
  have hk := row_keeps w gn (nx.length * 2) t m
  have hS := row_soft (BI := BI) h1
  have hY : ∀ y ∈ [gn], w0.heap.size ≤ y := fun y hy => by simp only [List.mem_singleton] at hy; subst hy; exact h.gl.1
  refine ⟨h.rc.own R hk hS hY h.rc.new.2.2.2 (h.rc.bx.keeps hk (h.rc.boxes h1)) (h.rc.row.turn (X := []) hk hS.soft (by simp; exact Ne.symm h.gl.2) (by simp)), rowC_keeps hk (fun y hy cs' e => ?_) h.lr, fun j t v e1 e2 => (h.ty j t v e1 e2).soft hk hS.soft, h.nr.put hl hs, h.gl⟩
  simp only [List.mem_singleton] at hy
  subst hy
  rw [h1] at e
  simp only [Option.some.injEq, Obj.cells.injEq] at e
  exact absurd e.2.1 (by decide)
/-- The next round's schemes are the schemes. -/
theorem NxSt.done (R : Rig a B lo hi gb ab Mw wst) {ts : List Ty} {us : List Value} {ad : Option Addr} {gn : Nat} {nx : List Sch} (h : NxSt a B lo hi gb ab fuel each Mw wst env ev b ebx ybx sbx n vb0 S0 w0 vb st g ss ts us ad gn nx w) :
    GrpSt a B lo hi gb ab fuel each Mw wst env ev b ebx ybx sbx n vb0 S0 w0 vb st gn nx (w.setCell ⟨sbx, 0, none⟩ (.slice (some ⟨gn, 0, none⟩) n n)) := by
  have hk : Keeps [sbx] w (w.setCell ⟨sbx, 0, none⟩ (.slice (some ⟨gn, 0, none⟩) n n)) := (Keeps.refl [sbx] w).setCell (.inl (by simp)) _
  have hS : SoftF BI [sbx] w := fun y hy => by
    simp only [List.mem_singleton] at hy
    subst hy
    exact ⟨_, _, _, h.rc.bx.sb, .inr (.inr rfl)⟩
  obtain ⟨cs, h1, h2, h3⟩ := h.nr
  have hgs : gn ≠ sbx := ne_objE h1 h.rc.bx.sb (by intro e; simp only [Obj.cells.injEq] at e; exact absurd e.2.1 (by decide))
  have hb := h.rc.bx
  refine h.rc.own R hk hS (fun y hy => by simp only [List.mem_singleton] at hy; subst hy; exact h.rc.new.2.2.1) h.gl.1 ⟨hk.some hb.eb (by simp; exact ne_objE hb.eb hb.sb (by intro e; simp only [Obj.cells.injEq] at e; exact absurd e.2.1 (by decide))), hk.some hb.yb (by simp; exact ne_objE hb.yb hb.sb (by intro e; simp only [Obj.cells.injEq] at e; exact absurd e.2.1 (by decide))), ?_⟩
    (SchRow.turn (X := []) ⟨cs, h1, h2, h3⟩ hk hS.soft (by simp; exact hgs) (by simp))
  have := block_setCell hb.sb 0 (.slice (some ⟨gn, 0, none⟩) n n)
  simpa using this
end
end Go.Proofs.YtpbplpnifjbkoabGreatDoor

/-
  Types in the program's memory: variables that may have become others, kinds with parts; what a step may turn.
-/
import Derived.Test.YtpbplpnifjbkoabGreatDoorTypl
import Derived.Test.YtpbplpnifjbkoabGreatDoorBase
import Derived.Test.YtpbplpnifjbkoabGreatDoorExpx
namespace Go.Proofs.YtpbplpnifjbkoabGreatDoor
open Go.RowKit

abbrev varT : TypeId := 180
abbrev conT : TypeId := 187
abbrev typT : TypeId := 116
abbrev varO (N : Int) (u : Value) (nm : ByteArray) : Obj := .cells #[.int .i64 N, u, .string nm] 180 (0, 0)
abbrev conO (k : Bytes) (sv : Value) : Obj := .cells #[.string (bs k), sv] 187 (0, 0)
abbrev vV (b : Nat) : Value := .iface 178 (.pointer (some ⟨b, 0, none⟩))
abbrev cV (b : Nat) : Value := .iface 183 (.pointer (some ⟨b, 0, none⟩))
abbrev kInt : Bytes := [105, 110, 116]
abbrev kBool : Bytes := [98, 111, 111, 108]
abbrev kList : Bytes := [108, 105, 115, 116]
abbrev kPair : Bytes := [112, 97, 105, 114]
abbrev kFun : Bytes := [102, 117, 110]

/-- From which block on variables may lie. -/
structure Low where
  low : Nat
abbrev lowB [Inhabited Low] : Nat := (default : Low).low
/-- What a value has become, at the end of its chain. -/
inductive Fnd [Inhabited Low] (w : World) : Value → Value → Prop
  | root {v : Value} {b : Nat} {N : Int} {nm : ByteArray} : v = vV b → w.heap[b]? = some (varO N .nilIface nm) → lowB ≤ b → Fnd w v v
  | con {v : Value} {c : Nat} : v = cV c → Fnd w v v
  | step {v u r : Value} {b : Nat} {N : Int} {nm : ByteArray} : v = vV b → w.heap[b]? = some (varO N u nm) → u ≠ .nilIface → lowB ≤ b → Fnd w u r → Fnd w v r

theorem vV_inj {a b : Nat} (h : vV a = vV b) : a = b := by simpa using h
theorem vV_cV {a b : Nat} (h : vV a = cV b) : False := by
  simp only [Value.iface.injEq] at h
  exact absurd h.1 (by decide)

theorem varO_inj {N N' : Int} {u u' : Value} {nm nm' : ByteArray} {x : Option Obj} (h : x = some (varO N u nm)) (h' : x = some (varO N' u' nm')) : N = N' ∧ u = u' ∧ nm = nm' := by
  subst h
  simp only [Option.some.injEq, Obj.cells.injEq, Array.mk.injEq, List.cons.injEq, Value.int.injEq, Value.string.injEq, true_and, and_true] at h'
  exact h'

theorem Fnd.det [Inhabited Low] {w : World} {v r : Value} (h : Fnd w v r) : ∀ {r' : Value}, Fnd w v r' → r = r' := by
  induction h with
  | root hv hb _ =>
    intro r' h'
    cases h' with
    | root _ _ _ => rfl
    | con hc => exact (vV_cV (hv.symm.trans hc)).elim
    | step hv' hb' hu _ _ =>
      obtain rfl := vV_inj (hv.symm.trans hv')
      exact (hu (varO_inj hb hb').2.1.symm).elim
  | con hv =>
    intro r' h'
    cases h' with
    | root hv' _ _ => exact (vV_cV (hv'.symm.trans hv)).elim
    | con _ => rfl
    | step hv' _ _ _ _ => exact (vV_cV (hv'.symm.trans hv)).elim
  | step hv hb hu _ _ ih =>
    intro r' h'
    cases h' with
    | root hv' hb' _ =>
      obtain rfl := vV_inj (hv.symm.trans hv')
      exact (hu (varO_inj hb hb').2.1).elim
    | con hc => exact (vV_cV (hv.symm.trans hc)).elim
    | step hv' hb' _ _ h2 =>
      obtain rfl := vV_inj (hv.symm.trans hv')
      obtain rfl := (varO_inj hb hb').2.1
      exact ih h2

/-- The end of a chain is a variable that has become nothing, or a kind. -/
theorem Fnd.shape [Inhabited Low] {w : World} {v r : Value} (h : Fnd w v r) : (∃ b N nm, r = vV b ∧ w.heap[b]? = some (varO N .nilIface nm) ∧ lowB ≤ b) ∨ ∃ c, r = cV c := by
  induction h with
  | root hv hb hl => exact .inl ⟨_, _, _, hv, hb, hl⟩
  | con hv => exact .inr ⟨_, hv⟩
  | step _ _ _ _ _ ih => exact ih
theorem Fnd.low [Inhabited Low] {w : World} {b : Nat} {r : Value} (h : Fnd w (vV b) r) : lowB ≤ b := by
  cases h with
  | root hv _ hl => exact vV_inj hv ▸ hl
  | con hv => exact (vV_cV hv).elim
  | step hv _ _ hl _ => exact vV_inj hv ▸ hl
theorem Fnd.self [Inhabited Low] {w : World} {v r : Value} (h : Fnd w v r) : Fnd w r r := by
  rcases h.shape with ⟨b, N, nm, rfl, hb, hl⟩ | ⟨c, rfl⟩
  · exact .root rfl hb hl
  · exact .con rfl
theorem Fnd.ne [Inhabited Low] {w : World} {v r : Value} (h : Fnd w v r) : r ≠ .nilIface := by
  rcases h.shape with ⟨b, N, nm, rfl, hb, _⟩ | ⟨c, rfl⟩ <;> simp

/-- A row of parts. -/
def RowV (w : World) (sv : Value) (vs : List Value) : Prop :=
  ∃ g cap cs, sv = .slice (some ⟨g, 0, none⟩) vs.length cap ∧ w.heap[g]? = some (.cells cs 116 (0, 0)) ∧ ∀ (j : Nat) (v : Value), vs[j]? = some v → cs[j]? = some v

/-- A value stands for a type (Q: which name a variable of a number may have). -/
def TyV [Inhabited Low] (Q : Nat → ByteArray → Prop) (w : World) : Ty → Value → Prop
  | .var n, v => ∃ b nm, Fnd w v (vV b) ∧ w.heap[b]? = some (varO n .nilIface nm) ∧ Q n nm
  | .int, v => ∃ c, Fnd w v (cV c) ∧ w.heap[c]? = some (conO kInt (.slice none 0 0))
  | .bool, v => ∃ c, Fnd w v (cV c) ∧ w.heap[c]? = some (conO kBool (.slice none 0 0))
  | .list a, v => ∃ c sv va, Fnd w v (cV c) ∧ w.heap[c]? = some (conO kList sv) ∧ RowV w sv [va] ∧ TyV Q w a va
  | .pair a b, v => ∃ c sv va vb, Fnd w v (cV c) ∧ w.heap[c]? = some (conO kPair sv) ∧ RowV w sv [va, vb] ∧ TyV Q w a va ∧ TyV Q w b vb
  | .arr a b, v => ∃ c sv va vb, Fnd w v (cV c) ∧ w.heap[c]? = some (conO kFun sv) ∧ RowV w sv [va, vb] ∧ TyV Q w a va ∧ TyV Q w b vb

/-- The same at the end of the chain, taken apart. -/
def ResV [Inhabited Low] (Q : Nat → ByteArray → Prop) (w : World) : Ty → Value → Prop
  | .var n, r => ∃ b nm, r = vV b ∧ w.heap[b]? = some (varO n .nilIface nm) ∧ Q n nm
  | .int, r => ∃ c, r = cV c ∧ w.heap[c]? = some (conO kInt (.slice none 0 0))
  | .bool, r => ∃ c, r = cV c ∧ w.heap[c]? = some (conO kBool (.slice none 0 0))
  | .list a, r => ∃ c sv va, r = cV c ∧ w.heap[c]? = some (conO kList sv) ∧ RowV w sv [va] ∧ TyV Q w a va
  | .pair a b, r => ∃ c sv va vb, r = cV c ∧ w.heap[c]? = some (conO kPair sv) ∧ RowV w sv [va, vb] ∧ TyV Q w a va ∧ TyV Q w b vb
  | .arr a b, r => ∃ c sv va vb, r = cV c ∧ w.heap[c]? = some (conO kFun sv) ∧ RowV w sv [va, vb] ∧ TyV Q w a va ∧ TyV Q w b vb

theorem TyV.fnd [Inhabited Low] {Q : Nat → ByteArray → Prop} {w : World} {t : Ty} {v : Value} (h : TyV Q w t v) : ∃ r, Fnd w v r := by
  cases t with
  | var n => obtain ⟨b, nm, h, _⟩ := h; exact ⟨_, h⟩
  | int => obtain ⟨c, h, _⟩ := h; exact ⟨_, h⟩
  | bool => obtain ⟨c, h, _⟩ := h; exact ⟨_, h⟩
  | list a => obtain ⟨c, sv, va, h, _⟩ := h; exact ⟨_, h⟩
  | pair a b => obtain ⟨c, sv, va, vb, h, _⟩ := h; exact ⟨_, h⟩
  | arr a b => obtain ⟨c, sv, va, vb, h, _⟩ := h; exact ⟨_, h⟩
theorem TyV.res [Inhabited Low] {Q : Nat → ByteArray → Prop} {w : World} {t : Ty} {v r : Value} (h : TyV Q w t v) (hf : Fnd w v r) : ResV Q w t r := by
  cases t with
  | var n => obtain ⟨b, nm, h, h'⟩ := h; exact ⟨b, nm, hf.det h, h'⟩
  | int => obtain ⟨c, h, h'⟩ := h; exact ⟨c, hf.det h, h'⟩
  | bool => obtain ⟨c, h, h'⟩ := h; exact ⟨c, hf.det h, h'⟩
  | list a => obtain ⟨c, sv, va, h, h'⟩ := h; exact ⟨c, sv, va, hf.det h, h'⟩
  | pair a b => obtain ⟨c, sv, va, vb, h, h'⟩ := h; exact ⟨c, sv, va, vb, hf.det h, h'⟩
  | arr a b => obtain ⟨c, sv, va, vb, h, h'⟩ := h; exact ⟨c, sv, va, vb, hf.det h, h'⟩
theorem ResV.ty [Inhabited Low] {Q : Nat → ByteArray → Prop} {w : World} {t : Ty} {r v : Value} (h : ResV Q w t r) (hf : Fnd w v r) : TyV Q w t v := by
  cases t with
  | var n => obtain ⟨b, nm, rfl, h'⟩ := h; exact ⟨b, nm, hf, h'⟩
  | int => obtain ⟨c, rfl, h'⟩ := h; exact ⟨c, hf, h'⟩
  | bool => obtain ⟨c, rfl, h'⟩ := h; exact ⟨c, hf, h'⟩
  | list a => obtain ⟨c, sv, va, rfl, h'⟩ := h; exact ⟨c, sv, va, hf, h'⟩
  | pair a b => obtain ⟨c, sv, va, vb, rfl, h'⟩ := h; exact ⟨c, sv, va, vb, hf, h'⟩
  | arr a b => obtain ⟨c, sv, va, vb, rfl, h'⟩ := h; exact ⟨c, sv, va, vb, hf, h'⟩
theorem TyV.mono [Inhabited Low] {Q Q' : Nat → ByteArray → Prop} {w : World} (hQ : ∀ n s, Q n s → Q' n s) : ∀ {t : Ty} {v : Value}, TyV Q w t v → TyV Q' w t v
  | .var _, _, ⟨b, nm, h, h', q⟩ => ⟨b, nm, h, h', hQ _ _ q⟩
  | .int, _, h => h
  | .bool, _, h => h
  | .list _, _, ⟨c, sv, va, h, h1, h2, h3⟩ => ⟨c, sv, va, h, h1, h2, TyV.mono hQ h3⟩
  | .pair _ _, _, ⟨c, sv, va, vb, h, h1, h2, h3, h4⟩ => ⟨c, sv, va, vb, h, h1, h2, TyV.mono hQ h3, TyV.mono hQ h4⟩
  | .arr _ _, _, ⟨c, sv, va, vb, h, h1, h2, h3, h4⟩ => ⟨c, sv, va, vb, h, h1, h2, TyV.mono hQ h3, TyV.mono hQ h4⟩

/-- A type's parts, its kind. -/
def kidsT : Ty → List Ty
  | .list a => [a]
  | .pair a b => [a, b]
  | .arr a b => [a, b]
  | _ => []
def kindT : Ty → Bytes
  | .var _ => []
  | .int => kInt
  | .bool => kBool
  | .list _ => kList
  | .pair _ _ => kPair
  | .arr _ _ => kFun
def isVarT : Ty → Bool
  | .var _ => true
  | _ => false
def KidsV [Inhabited Low] (Q : Nat → ByteArray → Prop) (w : World) (ts : List Ty) (vs : List Value) : Prop := vs.length = ts.length ∧ ∀ (j : Nat) t v, ts[j]? = some t → vs[j]? = some v → TyV Q w t v
/-- The cells of a row of which nothing is known where it is empty. -/
def RowC (w : World) (ad : Option Addr) (vs : List Value) : Prop := ∀ (j : Nat) v, vs[j]? = some v → ∃ g cs, ad = some ⟨g, 0, none⟩ ∧ w.heap[g]? = some (.cells cs 116 (0, 0)) ∧ cs[j]? = some v
theorem RowC.cell {w : World} {ad : Option Addr} {vs : List Value} (h : RowC w ad vs) {j : Nat} {v : Value} (hv : vs[j]? = some v) : ∃ g, ad = some ⟨g, 0, none⟩ ∧ w.cell? ⟨g, j, none⟩ = some v := by
  obtain ⟨g, cs, h1, h2, h3⟩ := h j v hv
  exact ⟨g, h1, (cell_of_block h2 j).trans h3⟩
theorem RowV.c {w : World} {sv : Value} {vs : List Value} (h : RowV w sv vs) : ∃ ad cap, sv = .slice ad vs.length cap ∧ RowC w ad vs := by
  obtain ⟨g, cap, cs, h1, h2, h3⟩ := h
  exact ⟨_, cap, h1, fun j v hv => ⟨g, cs, rfl, h2, h3 j v hv⟩⟩
theorem KidsV.nil [Inhabited Low] {Q : Nat → ByteArray → Prop} {w : World} : KidsV Q w [] [] := ⟨rfl, fun j t v h => by simp at h⟩
theorem KidsV.one [Inhabited Low] {Q : Nat → ByteArray → Prop} {w : World} {a : Ty} {va : Value} (h : TyV Q w a va) : KidsV Q w [a] [va] := ⟨rfl, fun j t v h1 h2 => by
  cases j with
  | zero => simp at h1 h2; subst h1; subst h2; exact h
  | succ j => simp at h1⟩
theorem KidsV.two [Inhabited Low] {Q : Nat → ByteArray → Prop} {w : World} {a b : Ty} {va vb : Value} (h : TyV Q w a va) (h' : TyV Q w b vb) : KidsV Q w [a, b] [va, vb] := ⟨rfl, fun j t v h1 h2 => by
  match j with
  | 0 => simp at h1 h2; subst h1; subst h2; exact h
  | 1 => simp at h1 h2; subst h1; subst h2; exact h'
  | j + 2 => simp at h1⟩
theorem ResV.kids [Inhabited Low] {Q : Nat → ByteArray → Prop} {w : World} {t : Ty} {r : Value} (h : ResV Q w t r) (hv : isVarT t = false) :
    ∃ c ad cap vs, r = cV c ∧ w.heap[c]? = some (conO (kindT t) (.slice ad vs.length cap)) ∧ RowC w ad vs ∧ KidsV Q w (kidsT t) vs := by
  cases t with
  | var n => simp [isVarT] at hv
  | int => obtain ⟨c, h1, h2⟩ := h; exact ⟨c, none, 0, [], h1, h2, fun j v hj => by simp at hj, .nil⟩
  | bool => obtain ⟨c, h1, h2⟩ := h; exact ⟨c, none, 0, [], h1, h2, fun j v hj => by simp at hj, .nil⟩
  | list a => obtain ⟨c, sv, va, h1, h2, h3, h4⟩ := h; obtain ⟨ad, cap, rfl, hr⟩ := h3.c; exact ⟨c, ad, cap, _, h1, h2, hr, .one h4⟩
  | pair a b => obtain ⟨c, sv, va, vb, h1, h2, h3, h4, h5⟩ := h; obtain ⟨ad, cap, rfl, hr⟩ := h3.c; exact ⟨c, ad, cap, _, h1, h2, hr, .two h4 h5⟩
  | arr a b => obtain ⟨c, sv, va, vb, h1, h2, h3, h4, h5⟩ := h; obtain ⟨ad, cap, rfl, hr⟩ := h3.c; exact ⟨c, ad, cap, _, h1, h2, hr, .two h4 h5⟩
/-- What a value is, before its chain is gone along. -/
theorem TyV.shape [Inhabited Low] {Q : Nat → ByteArray → Prop} {w : World} {t : Ty} {v : Value} (h : TyV Q w t v) : (∃ b, v = vV b) ∨ ∃ c, v = cV c := by
  obtain ⟨r, hf⟩ := h.fnd
  cases hf with
  | root hv _ _ => exact .inl ⟨_, hv⟩
  | con hv => exact .inr ⟨_, hv⟩
  | step hv _ _ _ _ => exact .inl ⟨_, hv⟩

/-- Below the end only the blocks in M, and what variables have become, may have turned; each chain leads where it led. -/
structure KV [Inhabited Low] (M : List Nat) (w w' : World) : Prop where
  os : w'.os = w.os
  tape : w'.tape = w.tape
  output : w'.output = w.output
  size : w.heap.size ≤ w'.heap.size
  low : ∀ k, k < lowB → k < w.heap.size → k ∉ M → w'.heap[k]? = w.heap[k]?
  block : ∀ (k : Nat) (o : Obj), w.heap[k]? = some o → k ∉ M → (∀ N u nm, o ≠ varO N u nm) → w'.heap[k]? = some o
  con : ∀ (k : Nat) cs T z, w.heap[k]? = some (.cells cs T z) → T = 187 ∨ T = 116 → w'.heap[k]? = some (.cells cs T z)
  var : ∀ (k : Nat) N u nm, w.heap[k]? = some (varO N u nm) → ∃ u', w'.heap[k]? = some (varO N u' nm) ∧ (u = .nilIface ↔ u' = .nilIface)
  fnd : ∀ v r, Fnd w v r → Fnd w' v r

theorem KV.refl [Inhabited Low] (M : List Nat) (w : World) : KV M w w := ⟨rfl, rfl, rfl, Nat.le_refl _, fun _ _ _ _ => rfl, fun _ _ h _ _ => h, fun _ _ _ _ h _ => h, fun _ _ u _ h => ⟨u, h, Iff.rfl⟩, fun _ _ h => h⟩
theorem KV.mono [Inhabited Low] {M M' : List Nat} {w w' : World} (h : KV M w w') (hM : ∀ m ∈ M, m ∈ M') : KV M' w w' :=
  ⟨h.os, h.tape, h.output, h.size, fun k hk hs hn => h.low k hk hs (fun hm => hn (hM k hm)), fun k o hk hn => h.block k o hk (fun hm => hn (hM k hm)), h.con, h.var, h.fnd⟩
theorem KV.trans [Inhabited Low] {M M' : List Nat} {a b c : World} (h : KV M a b) (k : KV M' b c) (hM : ∀ m ∈ M', m ∈ M ∨ a.heap.size ≤ m) : KV M a c :=
  ⟨k.os.trans h.os, k.tape.trans h.tape, k.output.trans h.output, Nat.le_trans h.size k.size,
    fun i hi hs hn => (k.low i hi (Nat.lt_of_lt_of_le hs h.size) (fun hm => (hM i hm).elim hn (fun hge => by omega))).trans (h.low i hi hs hn),
    fun i o ho hn hv => k.block i o (h.block i o ho hn hv) (fun hm => (hM i hm).elim hn (fun hge => by have := lt_of_some ho; omega)) hv,
    fun i cs T z ho hT => k.con i cs T z (h.con i cs T z ho hT) hT,
    fun i N u nm ho => by obtain ⟨u', h1, h2⟩ := h.var i N u nm ho; obtain ⟨u'', k1, k2⟩ := k.var i N u' nm h1; exact ⟨u'', k1, h2.trans k2⟩,
    fun v r hf => k.fnd v r (h.fnd v r hf)⟩
theorem KV.trans0 [Inhabited Low] {M : List Nat} {a b c : World} (h : KV M a b) (k : KV [] b c) : KV M a c := h.trans k (fun _ hm => by cases hm)
theorem KV.row [Inhabited Low] {M : List Nat} {w w' : World} (h : KV M w w') {sv : Value} {vs : List Value} (hr : RowV w sv vs) : RowV w' sv vs := by
  obtain ⟨g, cap, cs, h1, h2, h3⟩ := hr
  exact ⟨g, cap, cs, h1, h.con _ _ _ _ h2 (.inr rfl), h3⟩
theorem KV.root [Inhabited Low] {M : List Nat} {w w' : World} (h : KV M w w') {b : Nat} {N : Int} {nm : ByteArray} (hb : w.heap[b]? = some (varO N .nilIface nm)) : w'.heap[b]? = some (varO N .nilIface nm) := by
  obtain ⟨u', h1, h2⟩ := h.var b N _ nm hb
  rw [h2.1 rfl] at h1; exact h1
theorem KV.ty [Inhabited Low] {M : List Nat} {w w' : World} (h : KV M w w') {Q : Nat → ByteArray → Prop} : ∀ {t : Ty} {v : Value}, TyV Q w t v → TyV Q w' t v
  | .var _, _, ⟨b, nm, f, h', q⟩ => ⟨b, nm, h.fnd _ _ f, h.root h', q⟩
  | .int, _, ⟨c, f, h'⟩ => ⟨c, h.fnd _ _ f, h.con _ _ _ _ h' (.inl rfl)⟩
  | .bool, _, ⟨c, f, h'⟩ => ⟨c, h.fnd _ _ f, h.con _ _ _ _ h' (.inl rfl)⟩
  | .list _, _, ⟨c, sv, va, f, h1, h2, h3⟩ => ⟨c, sv, va, h.fnd _ _ f, h.con _ _ _ _ h1 (.inl rfl), h.row h2, KV.ty h h3⟩
  | .pair _ _, _, ⟨c, sv, va, vb, f, h1, h2, h3, h4⟩ => ⟨c, sv, va, vb, h.fnd _ _ f, h.con _ _ _ _ h1 (.inl rfl), h.row h2, KV.ty h h3, KV.ty h h4⟩
  | .arr _ _, _, ⟨c, sv, va, vb, f, h1, h2, h3, h4⟩ => ⟨c, sv, va, vb, h.fnd _ _ f, h.con _ _ _ _ h1 (.inl rfl), h.row h2, KV.ty h h3, KV.ty h h4⟩
/-- The same, nothing become anything: as types are read. -/
def TyD [Inhabited Low] (Q : Nat → ByteArray → Prop) (w : World) : Ty → Value → Prop
  | .var n, v => ∃ b nm, v = vV b ∧ Fnd w (vV b) (vV b) ∧ w.heap[b]? = some (varO n .nilIface nm) ∧ Q n nm
  | .int, v => ∃ c, v = cV c ∧ w.heap[c]? = some (conO kInt (.slice none 0 0))
  | .bool, v => ∃ c, v = cV c ∧ w.heap[c]? = some (conO kBool (.slice none 0 0))
  | .list a, v => ∃ c sv va, v = cV c ∧ w.heap[c]? = some (conO kList sv) ∧ RowV w sv [va] ∧ TyD Q w a va
  | .pair a b, v => ∃ c sv va vb, v = cV c ∧ w.heap[c]? = some (conO kPair sv) ∧ RowV w sv [va, vb] ∧ TyD Q w a va ∧ TyD Q w b vb
  | .arr a b, v => ∃ c sv va vb, v = cV c ∧ w.heap[c]? = some (conO kFun sv) ∧ RowV w sv [va, vb] ∧ TyD Q w a va ∧ TyD Q w b vb
theorem TyD.ty [Inhabited Low] {Q : Nat → ByteArray → Prop} {w : World} : ∀ {t : Ty} {v : Value}, TyD Q w t v → TyV Q w t v
  | .var _, _, ⟨b, nm, e, h, h', q⟩ => ⟨b, nm, by subst e; exact h, h', q⟩
  | .int, _, ⟨c, e, h⟩ => ⟨c, by subst e; exact .con rfl, h⟩
  | .bool, _, ⟨c, e, h⟩ => ⟨c, by subst e; exact .con rfl, h⟩
  | .list _, _, ⟨c, sv, va, e, h, h2, h3⟩ => ⟨c, sv, va, by subst e; exact .con rfl, h, h2, TyD.ty h3⟩
  | .pair _ _, _, ⟨c, sv, va, vb, e, h, h2, h3, h4⟩ => ⟨c, sv, va, vb, by subst e; exact .con rfl, h, h2, TyD.ty h3, TyD.ty h4⟩
  | .arr _ _, _, ⟨c, sv, va, vb, e, h, h2, h3, h4⟩ => ⟨c, sv, va, vb, by subst e; exact .con rfl, h, h2, TyD.ty h3, TyD.ty h4⟩
theorem TyD.mono [Inhabited Low] {Q Q' : Nat → ByteArray → Prop} {w : World} (hQ : ∀ n s, Q n s → Q' n s) : ∀ {t : Ty} {v : Value}, TyD Q w t v → TyD Q' w t v
  | .var _, _, ⟨b, nm, h, h', h2, q⟩ => ⟨b, nm, h, h', h2, hQ _ _ q⟩
  | .int, _, h => h
  | .bool, _, h => h
  | .list _, _, ⟨c, sv, va, h, h1, h2, h3⟩ => ⟨c, sv, va, h, h1, h2, TyD.mono hQ h3⟩
  | .pair _ _, _, ⟨c, sv, va, vb, h, h1, h2, h3, h4⟩ => ⟨c, sv, va, vb, h, h1, h2, TyD.mono hQ h3, TyD.mono hQ h4⟩
  | .arr _ _, _, ⟨c, sv, va, vb, h, h1, h2, h3, h4⟩ => ⟨c, sv, va, vb, h, h1, h2, TyD.mono hQ h3, TyD.mono hQ h4⟩
theorem TyD.shape [Inhabited Low] {Q : Nat → ByteArray → Prop} {w : World} {t : Ty} {v : Value} (h : TyD Q w t v) : (∃ b, v = vV b) ∨ ∃ c, v = cV c := h.ty.shape
theorem KV.td [Inhabited Low] {M : List Nat} {w w' : World} (h : KV M w w') {Q : Nat → ByteArray → Prop} : ∀ {t : Ty} {v : Value}, TyD Q w t v → TyD Q w' t v
  | .var _, _, ⟨b, nm, e, f, h', q⟩ => ⟨b, nm, e, h.fnd _ _ f, h.root h', q⟩
  | .int, _, ⟨c, e, h'⟩ => ⟨c, e, h.con _ _ _ _ h' (.inl rfl)⟩
  | .bool, _, ⟨c, e, h'⟩ => ⟨c, e, h.con _ _ _ _ h' (.inl rfl)⟩
  | .list _, _, ⟨c, sv, va, e, h1, h2, h3⟩ => ⟨c, sv, va, e, h.con _ _ _ _ h1 (.inl rfl), h.row h2, KV.td h h3⟩
  | .pair _ _, _, ⟨c, sv, va, vb, e, h1, h2, h3, h4⟩ => ⟨c, sv, va, vb, e, h.con _ _ _ _ h1 (.inl rfl), h.row h2, KV.td h h3, KV.td h h4⟩
  | .arr _ _, _, ⟨c, sv, va, vb, e, h1, h2, h3, h4⟩ => ⟨c, sv, va, vb, e, h.con _ _ _ _ h1 (.inl rfl), h.row h2, KV.td h h3, KV.td h h4⟩
/-- Which kind of value it is. -/
theorem TyD.var [Inhabited Low] {Q : Nat → ByteArray → Prop} {w : World} {t : Ty} {b : Nat} (h : TyD Q w t (vV b)) : ∃ n, t = .var n := by
  cases t with
  | var n => exact ⟨n, rfl⟩
  | int => obtain ⟨c, e, _⟩ := h; exact (vV_cV e).elim
  | bool => obtain ⟨c, e, _⟩ := h; exact (vV_cV e).elim
  | list a => obtain ⟨c, sv, va, e, _⟩ := h; exact (vV_cV e).elim
  | pair a b => obtain ⟨c, sv, va, vb, e, _⟩ := h; exact (vV_cV e).elim
  | arr a b => obtain ⟨c, sv, va, vb, e, _⟩ := h; exact (vV_cV e).elim
theorem KV.rowC [Inhabited Low] {M : List Nat} {w w' : World} (h : KV M w w') {ad : Option Addr} {vs : List Value} (hr : RowC w ad vs) : RowC w' ad vs := by
  intro j v hj
  obtain ⟨g, cs, h1, h2, h3⟩ := hr j v hj
  exact ⟨g, cs, h1, h.con _ _ _ _ h2 (.inr rfl), h3⟩
theorem KV.kids [Inhabited Low] {M : List Nat} {w w' : World} (h : KV M w w') {Q : Nat → ByteArray → Prop} {ts : List Ty} {vs : List Value} (hk : KidsV Q w ts vs) : KidsV Q w' ts vs := ⟨hk.1, fun j t v h1 h2 => h.ty (hk.2 j t v h1 h2)⟩
theorem KV.blk [Inhabited Low] {M : List Nat} {w w' : World} (h : KV M w w') {b : Nat} {o : Obj} (ho : w.heap[b]? = some o) (hn : b ∉ M) (hv : ∀ N u nm, o ≠ varO N u nm) : w'.heap[b]? = some o := h.block b o ho hn hv

/-- An object that no type is made of. -/
def plainO (o : Obj) : Prop := ∀ cs T z, o = .cells cs T z → T ≠ 180 ∧ T ≠ 187 ∧ T ≠ 116
theorem Keeps.kv [Inhabited Low] {M : List Nat} {w w' : World} (h : Keeps M w w') (hM : ∀ m ∈ M, ∀ o, w.heap[m]? = Option.some o → plainO o) : KV M w w' := by
  have hb : ∀ (k : Nat) (cs : Array Value) (T : TypeId) (z : Nat × Nat), w.heap[k]? = Option.some (.cells cs T z) → T = 180 ∨ T = 187 ∨ T = 116 → w'.heap[k]? = Option.some (.cells cs T z) := by
    intro k cs T z hk hT
    refine Keeps.some h hk fun hm => ?_
    obtain ⟨h1, h2, h3⟩ := hM k hm _ hk cs T z rfl
    rcases hT with e | e | e
    · exact h1 e
    · exact h2 e
    · exact h3 e
  refine ⟨h.os, h.tape, h.output, h.size, fun k _ hs hn => h.block k hs hn, fun k o hk hn _ => Keeps.some h hk hn, fun k cs T z hk hT => hb k cs T z hk (.inr hT), fun k N u nm hk => ⟨u, hb k _ _ _ hk (.inl rfl), Iff.rfl⟩, ?_⟩
  intro v r hf
  induction hf with
  | root hv hk hl => exact .root hv (hb _ _ _ _ hk (.inl rfl)) hl
  | con hv => exact .con hv
  | step hv hk hu hl _ ih => exact .step hv (hb _ _ _ _ hk (.inl rfl)) hu hl ih
theorem Keeps.kv0 [Inhabited Low] {w w' : World} (h : Keeps [] w w') : KV [] w w' := h.kv (fun _ hm => by cases hm)
theorem KV.keeps [Inhabited Low] {w w' : World} (h : KV [] w w') (hl : w.heap.size ≤ lowB) : Keeps [] w w' := ⟨h.os, h.tape, h.output, h.size, fun k hk hn => h.low k (by omega) hk hn⟩
theorem KV.frame [Inhabited Low] {M : List Nat} {w w' : World} (h : KV M w w') {M' : List Nat} {w'' : World} (k : Keeps M' w' w'') (hM : ∀ m ∈ M', m ∈ M ∨ w.heap.size ≤ m) (hp : ∀ m ∈ M', ∀ o, w'.heap[m]? = Option.some o → plainO o) : KV M w w'' := h.trans (k.kv hp) hM

/-- A variable that has become something: to the end of the chain at once. -/
theorem KV.compress [Inhabited Low] {w : World} {b : Nat} {N : Int} {u r : Value} {nm : ByteArray} (hb : w.heap[b]? = some (varO N u nm)) (hu : u ≠ .nilIface) (hf : Fnd w (vV b) r) : KV [] w (w.setCell ⟨b, 1, none⟩ r) := by
  have hb' : (w.setCell ⟨b, 1, none⟩ r).heap[b]? = some (varO N r nm) := by simpa using block_setCell hb 1 r
  have ho : ∀ (k : Nat) (o : Obj), w.heap[k]? = some o → k ≠ b → (w.setCell ⟨b, 1, none⟩ r).heap[k]? = some o := fun k o hk hne => block_setCell_other hk _ _ hne
  have hne : ∀ {k : Nat} {N' : Int} {nm' : ByteArray}, w.heap[k]? = some (varO N' .nilIface nm') → k ≠ b := by
    rintro k N' nm' hk rfl
    exact hu (varO_inj hb hk).2.1
  have hr : Fnd (w.setCell ⟨b, 1, none⟩ r) r r := by
    rcases hf.shape with ⟨c, M, nm', rfl, hc, hl⟩ | ⟨c, rfl⟩
    · exact .root rfl (ho _ _ hc (hne hc)) hl
    · exact .con rfl
  have hvar : ∀ (k : Nat) (cs : Array Value) (z : Nat × Nat) (T : TypeId), w.heap[k]? = some (.cells cs T z) → T ≠ 180 → k ≠ b := by
    rintro k cs z T hk hT rfl
    rw [hb] at hk
    simp only [Option.some.injEq, Obj.cells.injEq] at hk
    exact hT hk.2.1.symm
  have hlow := hf.low
  refine ⟨rfl, rfl, rfl, by simp [World.setCell], fun k hk _ _ => Below.heap_setCell w _ _ k (by simp; omega), fun k o hk _ hv => ho k o hk ?_, fun k cs T z hk hT => ho k _ hk (hvar k cs z T hk (by rcases hT with rfl | rfl <;> decide)), fun k N' u' nm' hk => ?_, fun v r' h => ?_⟩
  · rintro rfl
    rw [hb] at hk
    cases hk
    exact hv _ _ _ rfl
  · by_cases hk' : k = b
    · subst hk'
      obtain ⟨rfl, rfl, rfl⟩ := varO_inj hb hk
      exact ⟨r, hb', fun e => (hu e).elim, fun e => (hf.ne e).elim⟩
    · exact ⟨u', ho k _ hk hk', Iff.rfl⟩
  · induction h with
    | root hv hk hl => exact .root hv (ho _ _ hk (hne hk)) hl
    | con hv => exact .con hv
    | step hv hk hu' hl h2 ih =>
      rename_i v' u' r'' k N' nm'
      by_cases hk' : k = b
      · subst hk'
        subst hv
        obtain rfl := hf.det (.step rfl hk hu' hl h2)
        exact .step rfl hb' hf.ne hl hr
      · exact .step hv (ho _ _ hk hk') hu' hl ih
end Go.Proofs.YtpbplpnifjbkoabGreatDoor

namespace Go.Proofs.YtpbplpnifjbkoabGreatDoor
open Go.RowKit

theorem con_find (c : Nat) (w : World) : Calls Tryz.prog 223 #[.pointer (some ⟨c, 0, none⟩)] w fun e w' => e = .returned (cV c) ∧ w = w' := by
  go_enter Tryz.func223, Tryz.ntmps223
  go_wp2
  go_ret
  exact ⟨rfl, rfl⟩

theorem Fnd.start [Inhabited Low] {w : World} {v r : Value} (h : Fnd w v r) : (∃ b, v = vV b) ∨ ∃ c, v = cV c ∧ r = cV c := by
  cases h with
  | root hv hb _ => exact .inl ⟨_, hv⟩
  | con hv => exact .inr ⟨_, hv, hv⟩
  | step hv _ _ _ _ => exact .inl ⟨_, hv⟩

theorem var_find [Inhabited Low] {w : World} {v r : Value} (h : Fnd w v r) : ∀ b, v = vV b → Calls Tryz.prog 222 #[.pointer (some ⟨b, 0, none⟩)] w fun e w' => e = .returned r ∧ KV [] w w' := by
  induction h with
  | root hv hb _ =>
    rintro b rfl
    obtain rfl := vV_inj hv
    have c1 := cell_of_block hb 1
    clear hb hv
    go_enter Tryz.func222, Tryz.ntmps222
    go_wp2
    go_ret
    exact ⟨rfl, KV.refl _ _⟩
  | con hv =>
    rintro b rfl
    exact (vV_cV hv).elim
  | step hv hb hu hl h2 ih =>
    rename_i v' u r' b' N nm
    rintro b rfl
    obtain rfl := vV_inj hv
    have c1 : w.cell? ⟨b, 1, none⟩ = some u := cell_of_block hb 1
    have hF : Fnd w (vV b) r' := .step rfl hb hu hl h2
    have HB := Lib.hid hb
    have HU := Lib.hid hu
    have HF := Lib.hid hF
    have HI := Lib.hid ih
    have hs := h2.start
    clear hb hF ih h2 hv hl
    rcases hs with ⟨b2, rfl⟩ | ⟨c2, rfl, rfl⟩
    · clear hu
      go_enter Tryz.func222, Tryz.ntmps222
      go_wp2_with fail
      refine (HI.out b2 rfl).mono ?_
      rintro e w1 ⟨rfl, hk⟩
      obtain ⟨u1, hb1, hu1⟩ := hk.var _ _ _ _ HB.out
      have f1 := free_of_block hb1 1
      have hF1 := hk.fnd _ _ HF.out
      have HK := Lib.hid hk
      have HB1 := Lib.hid hb1
      have HF1 := Lib.hid hF1
      obtain ⟨t, p, rfl⟩ : ∃ t p, r' = .iface t p := by
        rcases hF1.shape with ⟨_, _, _, h, _⟩ | ⟨_, h⟩ <;> exact ⟨_, _, h⟩
      have hne : u1 ≠ .nilIface := fun e => HU.out (hu1.2 e)
      have HNE := Lib.hid hne
      have q1 : w1.cell? ⟨b, 1, none⟩ = some u1 := cell_of_block hb1 1
      clear c1 hk hb1 hF1 hu1 hne
      go_wp2_with fail
      go_ret
      exact ⟨rfl, HK.out.trans0 (KV.compress HB1.out HNE.out HF1.out)⟩
    · have f1 : w.frozen? ⟨b, 1, none⟩ = false := free_of_block HB.out 1
      clear hu
      go_enter Tryz.func222, Tryz.ntmps222
      go_wp2_with fail
      refine (con_find c2 w).mono ?_
      rintro e w1 ⟨rfl, rfl⟩
      go_wp2_with fail
      go_ret
      exact ⟨rfl, KV.compress HB.out HU.out HF.out⟩

/-- t.find(), at the call. -/
theorem find_var [Inhabited Low] {w : World} {b : Nat} {r : Value} (h : Fnd w (vV b) r) : Calls Tryz.prog 222 #[.pointer (some ⟨b, 0, none⟩)] w fun e w' => e = .returned r ∧ KV [] w w' := var_find h b rfl
theorem find_con [Inhabited Low] {w : World} {c : Nat} {r : Value} (h : Fnd w (cV c) r) : Calls Tryz.prog 223 #[.pointer (some ⟨c, 0, none⟩)] w fun e w' => e = .returned r ∧ KV [] w w' := by
  obtain rfl := h.det (.con rfl)
  refine (con_find c w).mono ?_
  rintro e w' ⟨rfl, rfl⟩
  exact ⟨rfl, KV.refl _ _⟩

theorem taVarCon (v : Value) (xT : TypeId) (w : World) : (Instr.typeAssert (.iface 178 v) xT 183 true).run Tryz.prog w = .ok (.tuple #[.pointer none, .bool false]) w := by kernel_rfl
theorem taConCon (v : Value) (xT : TypeId) (w : World) : (Instr.typeAssert (.iface 183 v) xT 183 true).run Tryz.prog w = .ok (.tuple #[v, .bool true]) w := by kernel_rfl
theorem taVarCon' (v : Value) (xT : TypeId) (w : World) : (Instr.typeAssert (.iface 178 v) xT 178 false).run Tryz.prog w = .ok v w := by kernel_rfl

/-- The count's state behind some parts. -/
def sizeK (b : Int) : List Ty → Int → Int
  | [], n => n
  | t :: r, n => sizeK b r (if n ≤ b then n + sizeB t (b - n) else n)
theorem sizeK_snoc (b : Int) (l : List Ty) (t : Ty) : ∀ n, sizeK b (l ++ [t]) n = (if sizeK b l n ≤ b then sizeK b l n + sizeB t (b - sizeK b l n) else sizeK b l n) := by
  induction l with
  | nil => intro n; rfl
  | cons a r ih => intro n; exact ih _
theorem sizeK_kids (t : Ty) (b : Int) : sizeB t b = sizeK b (kidsT t) 1 := by cases t <;> rfl
theorem sizeB_le (t : Ty) : ∀ b : Int, 0 ≤ b → sizeB t b ≤ b + 1 ∧ 1 ≤ sizeB t b := by
  induction t with
  | var n => intro b h; simp only [sizeB]; omega
  | int => intro b h; simp only [sizeB]; omega
  | bool => intro b h; simp only [sizeB]; omega
  | list a ih =>
    intro b h
    simp only [sizeB]
    by_cases h1 : (1 : Int) ≤ b
    · have := ih (b - 1) (by omega)
      rw [if_pos h1]; omega
    · rw [if_neg h1]; omega
  | pair a c iha ihc =>
    intro b h
    simp only [sizeB]
    by_cases h1 : (1 : Int) ≤ b
    · have ha := iha (b - 1) (by omega)
      rw [if_pos h1]
      split
      · have := ihc (b - (1 + sizeB a (b - 1))) (by omega); omega
      · omega
    · rw [if_neg h1, if_neg h1]; omega
  | arr a c iha ihc =>
    intro b h
    simp only [sizeB]
    by_cases h1 : (1 : Int) ≤ b
    · have ha := iha (b - 1) (by omega)
      rw [if_pos h1]
      split
      · have := ihc (b - (1 + sizeB a (b - 1))) (by omega); omega
      · omega
    · rw [if_neg h1, if_neg h1]; omega
theorem sizeK_le (b : Int) (_hb : 0 ≤ b) (l : List Ty) : ∀ n, 1 ≤ n → n ≤ b + 1 → 1 ≤ sizeK b l n ∧ sizeK b l n ≤ b + 1 := by
  induction l with
  | nil => intro n h1 h2; exact ⟨h1, h2⟩
  | cons a r ih =>
    intro n h1 h2
    simp only [sizeK]
    split
    · have := sizeB_le a (b - n) (by omega)
      exact ih _ (by omega) (by omega)
    · exact ih _ h1 h2
theorem kids_lt {t a : Ty} (h : a ∈ kidsT t) : a.size < t.size := by
  cases t <;> simp [kidsT] at h
  · subst h; simp [Ty.size]
  · rcases h with rfl | rfl <;> simp only [Ty.size] <;> omega
  · rcases h with rfl | rfl <;> simp only [Ty.size] <;> omega
theorem kids_few (t : Ty) : (kidsT t).length ≤ 2 := by cases t <;> simp [kidsT]
theorem take_next' {α : Type} {l : List α} {j : Nat} {a : α} (h : l[j]? = some a) : l.take (j + 1) = l.take j ++ [a] := by
  obtain ⟨hj, rfl⟩ := List.getElem?_eq_some_iff.1 h
  exact List.take_succ_eq_append_getElem hj

set_option maxRecDepth 100000 in
set_option maxHeartbeats 4000000 in
theorem size_any [Inhabited Low] (n : Nat) : ∀ (t : Ty), t.size ≤ n → ∀ (Q : Nat → ByteArray → Prop) (w : World) (v : Value) (b : Int), TyV Q w t v → 0 ≤ b → b ≤ 1000 →
    Calls Tryz.prog 97 #[v, .int .i64 b] w fun e w' => e = .returned (.int .i64 (sizeB t b)) ∧ KV [] w w' := by
  induction n with
  | zero => intro t h; have := t.size_pos; omega
  | succ n ih =>
    intro t ht Q w v b hv hb0 hb1
    obtain ⟨r, hf⟩ := hv.fnd
    have HV := Lib.hid hv
    have HF := Lib.hid hf
    have HIH := Lib.hid ih
    have HEQ := Lib.hid (sizeK_kids t b)
    have hsh := hv.shape
    clear hv hf ih
    rcases hsh with ⟨vb, rfl⟩ | ⟨vc, rfl⟩
    all_goals
      go_enter Tryz.func97, Tryz.ntmps97
      go_wp2_with fail
      first | refine (find_var HF.out).mono ?_ | refine (find_con HF.out).mono ?_
      rintro e w1 ⟨rfl, hk⟩
      have hv1 := hk.ty HV.out
      have hr1 := hv1.res (hk.fnd _ _ HF.out)
      have HK := Lib.hid hk
      clear hk hv1 HV HF
      by_cases hvar : isVarT t = true
      · obtain ⟨vn, rfl⟩ : ∃ vn, t = .var vn := by cases t <;> first | exact ⟨_, rfl⟩ | simp [isVarT] at hvar
        obtain ⟨b2, nm, rfl, _, _⟩ := hr1
        have hta := taVarCon (.pointer (some ⟨b2, 0, none⟩)) 116 w1
        clear hvar
        go_wp2
        go_ret
        exact ⟨rfl, HK.out⟩
      · obtain ⟨c, ad, cap, vs, rfl, hc, hrow, hkids⟩ := hr1.kids (eq_false_of_ne_true hvar)
        have hta := taConCon (.pointer (some ⟨c, 0, none⟩)) 116 w1
        have c1 : w1.cell? ⟨c, 1, none⟩ = some (.slice ad vs.length cap) := cell_of_block hc 1
        have hfew := kids_few t
        have hlen : vs.length ≤ 2 := by rw [hkids.1]; exact hfew
        have HR := Lib.hid hrow
        have HKD := Lib.hid hkids
        have HL := Lib.hid hkids.1
        clear hvar hr1 hc hrow hkids hfew
        go_wp2_with fail
        go_loopg [5, 22] vs.length (fun gg m i wx => ∃ j : Nat, gg = vs.length - j ∧ i = .int .i64 j ∧ j ≤ vs.length ∧ m = .int .i64 (sizeK b ((kidsT t).take j) 1) ∧ KV [] w1 wx)
        case atStart => exact ⟨0, rfl, rfl, by omega, rfl, KV.refl _ _⟩
        case round =>
          obtain ⟨j, hg, rfl, hj, rfl, hk⟩ := hrel
          have HG := Lib.hid hg
          have HK2 := Lib.hid hk
          have hbd := sizeK_le b hb0 ((kidsT t).take j) 1 (by omega) (by omega)
          clear hg hk
          by_cases hlt : j < vs.length
          · have hjk : j < (kidsT t).length := by rw [← HL.out]; exact hlt
            obtain ⟨a, ha⟩ : ∃ a, (kidsT t)[j]? = some a := ⟨_, List.getElem?_eq_getElem hjk⟩
            obtain ⟨va, hva⟩ : ∃ va, vs[j]? = some va := ⟨_, List.getElem?_eq_getElem hlt⟩
            have hta2 := HK2.out.ty (HKD.out.2 j a va ha hva)
            obtain ⟨g, rfl, hcell⟩ := (HK2.out.rowC HR.out).cell hva
            have hlt' := kids_lt (List.mem_of_getElem? ha)
            have HTK := Lib.hid (take_next' ha)
            have HTY := Lib.hid hta2
            have hsn := sizeK_snoc b ((kidsT t).take j) a 1
            have hbl := sizeB_le a (b - sizeK b ((kidsT t).take j) 1)
            generalize sizeK b ((kidsT t).take j) 1 = m at hbd hsn hbl ⊢
            have hdl : decide ((j : Int) < (vs.length : Int)) = true := by simpa using hlt
            obtain ⟨vt, vp, rfl⟩ : ∃ vt vp, va = .iface vt vp := by rcases hta2.shape with ⟨_, rfl⟩ | ⟨_, rfl⟩ <;> exact ⟨_, _, rfl⟩
            by_cases hm : m ≤ b
            · have hdm : decide (m ≤ b) = true := by simpa using hm
              rw [if_pos hm] at hsn
              have HSN := Lib.hid hsn
              have hbl' := hbl (by omega)
              clear hsn hbl hta2 ha hva hjk
              go_wp2_with fail
              refine (HIH.out a (by omega) Q _ _ (b - m) HTY.out (by omega) (by omega)).mono ?_
              rintro e w2 ⟨rfl, hk⟩
              have HK3 := Lib.hid (HK2.out.trans0 hk)
              clear hk
              go_wp2_with fail
              go_roundg (vs.length - (j + 1))
              case measure => have := HG.out; omega
              case rel =>
                refine ⟨j + 1, rfl, by go_num, by omega, ?_, HK3.out⟩
                rw [HTK.out, HSN.out]
            · have hdm : decide (m ≤ b) = false := by simpa using hm
              rw [if_neg hm] at hsn
              have HSN := Lib.hid hsn
              clear hsn hbl hta2 ha hva hjk
              go_wp2_with fail
              go_roundg (vs.length - (j + 1))
              case measure => have := HG.out; omega
              case rel =>
                refine ⟨j + 1, rfl, by go_num, by omega, ?_, HK2.out⟩
                rw [HTK.out, HSN.out]
          · have hdl : decide ((j : Int) < (vs.length : Int)) = false := by simpa using hlt
            have hjl : (kidsT t).take j = kidsT t := List.take_of_length_le (by rw [← HL.out]; omega)
            rw [hjl]
            clear hjl hbd
            go_wp2
            go_ret
            refine ⟨?_, HK.out.trans0 HK2.out⟩
            rw [HEQ.out]
            rfl
end Go.Proofs.YtpbplpnifjbkoabGreatDoor

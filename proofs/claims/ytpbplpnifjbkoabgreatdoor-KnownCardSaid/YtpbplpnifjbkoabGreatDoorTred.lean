/-
  Maps from strings to pointers, as functions.
-/
import Derived.Maps.OwnSet
import Derived.Test.YtpbplpnifjbkoabGreatDoorRd
import Derived.Test.YtpbplpnifjbkoabGreatDoorBase
import Derived.Test.YtpbplpnifjbkoabGreatDoorTval
import Derived.Test.YtpbplpnifjbkoabGreatDoorTypl
namespace Go.Proofs.YtpbplpnifjbkoabGreatDoor
open Go.RowKit
open Go.Maps (Keyed string_keyed)

theorem uString : Tryz.prog.underlying 9 = some .string := by kernel_rfl
theorem uPm : Tryz.prog.underlying 175 = some (.map 9 178) := by kernel_rfl
theorem zPm (w : World) : (zeroValue 178).run Tryz.prog w = .ok (.pointer none) w := by kernel_rfl
theorem lawString : Keyed Tryz.prog 9 := string_keyed uString

/-- How a pointer reads. -/
def ptrElem : Value → Option (DataW Unit × List MemPlace)
  | .pointer none => some (.lit (.int .i64 (-1)), [])
  | .pointer (some ⟨c, 0, none⟩) => some (.lit (.int .i64 c), [])
  | _ => none
def ptrOf : Option Nat → Value
  | none => .pointer none
  | some c => .pointer (some ⟨c, 0, none⟩)
def litOf : Option Nat → DataW Unit
  | none => .lit (.int .i64 (-1))
  | some c => .lit (.int .i64 c)
theorem ptrElem_of (x : Option Nat) : ptrElem (ptrOf x) = some (litOf x, []) := by cases x <;> rfl
theorem ptrElem_inv {v : Value} {x : Option Nat} {ps : List MemPlace} (h : ptrElem v = some (litOf x, ps)) : v = ptrOf x := by
  unfold ptrElem at h
  split at h
  · cases x with
    | none => rfl
    | some c => simp [litOf] at h
  · cases x with
    | none => simp [litOf] at h
    | some c => simp [litOf] at h; simp [ptrOf]
  · cases h

/-- Block b is a map of at most n entries that sends names to blocks as f does. -/
def PMap (w : World) (b n : Nat) (f : Bytes → Option Nat) : Prop :=
  ∃ D, w.ownsMap Tryz.prog 9 ptrElem b n D ∧ ∀ x : Bytes, D.atKey (.string x) (.lit (.int .i64 (-1))) = litOf (f x)
theorem PMap.made (w : World) : PMap (w.alloc (.map #[] 0)) w.heap.size 0 fun _ => none := ⟨_, World.ownsMap_made _ _ _ _, fun _x => rfl⟩
theorem PMap.lt {w : World} {b n : Nat} {f : Bytes → Option Nat} (h : PMap w b n f) : b < w.heap.size := by obtain ⟨D, h, _⟩ := h; exact h.lt
theorem PMap.same {w w' : World} {b n : Nat} {f : Bytes → Option Nat} (h : PMap w b n f) (hb : w'.heap[b]? = w.heap[b]?) : PMap w' b n f := by
  obtain ⟨D, ⟨es, clock, h1, h2⟩, h3⟩ := h
  exact ⟨D, ⟨es, clock, hb.trans h1, h2⟩, h3⟩
theorem PMap.obj {w : World} {b n : Nat} {f : Bytes → Option Nat} (h : PMap w b n f) : ∃ es cl, w.heap[b]? = some (.map es cl) := by
  obtain ⟨D, ⟨es, clock, h1, h2⟩, h3⟩ := h
  exact ⟨es, clock, h1⟩
theorem PMap.look {w : World} {b n : Nat} {f : Bytes → Option Nat} (h : PMap w b n f) (s : ByteArray) (hs : s.size ≤ maxLen) :
    (Instr.lookup 175 (.map (some b)) (.string s) false).run Tryz.prog w = .ok (ptrOf (f s.data.toList)) w := by
  obtain ⟨D, h1, h2⟩ := h
  obtain ⟨v, ps, hrun, hv⟩ := h1.lookup lawString uPm (zPm w) (zd := .lit (.int .i64 (-1))) (zp := []) rfl (WideMaps.keyOf_string_mk uString hs)
  rw [h2] at hv
  rw [hrun, ptrElem_inv hv]
theorem PMap.store {w : World} {b n : Nat} {f : Bytes → Option Nat} (h : PMap w b n f) (hn : n < maxLen) (s : ByteArray) (hs : s.size ≤ maxLen) (c : Nat) :
    ∃ w', (Instr.mapUpdate 175 (.map (some b)) (.string s) (.pointer (some ⟨c, 0, none⟩))).run Tryz.prog w = .ok () w' ∧ PMap w' b (n + 1) (fun y => if y = s.data.toList then some c else f y) ∧ w.grownBy w' (some b) := by
  obtain ⟨D, h1, h2⟩ := h
  obtain ⟨w', hrun, h3, h4⟩ := h1.update lawString uPm hn (key := .string s) (WideMaps.keyOf_string_mk uString hs) (ptrElem_of (some c))
  refine ⟨w', hrun, ⟨_, h3, fun x => ?_⟩, h4⟩
  by_cases hx : x = s.data.toList
  · subst hx
    simp only [if_true]
    rw [Maps.atKey_put_same h1.isMap (by simp [WideAt.IsKeyLit])]
  · simp only [hx, if_false]
    rw [Maps.atKey_put_other (by simpa using hx), h2]
theorem wpList_pm_store {ops : Array Oper} {rest : List Oper} {o : Oper} {a : Act} {Q : Exit → Act → World → Prop} (w : World) (hg : o.guard = none) (m x v : Operand) (hop : o.op = Op.mapUpdate 175 m x v)
    (b n : Nat) (f : Bytes → Option Nat) (hm : a.eval m = .map (some b)) (h : PMap w b n f) (hn : n < maxLen) (s : ByteArray) (hs : s.size ≤ maxLen) (c : Nat) (hx : a.eval x = .string s) (hv : a.eval v = .pointer (some ⟨c, 0, none⟩))
    (hK : ∀ w', PMap w' b (n + 1) (fun y => if y = s.data.toList then some c else f y) → w.grownBy w' (some b) → wpList Tryz.prog ops Q rest (a.put o.dst undef) w') :
    wpList Tryz.prog ops Q (o :: rest) a w := by
  refine wpList_plain hg fun K' hK' => ?_
  obtain ⟨w', hrun, r1, r2⟩ := h.store hn s hs c
  unfold Oper.wp
  simp [execOp, hop, hm, hx, hv, hrun, Result.andThen]
  exact hK' _ _ (hK w' r1 r2)
end Go.Proofs.YtpbplpnifjbkoabGreatDoor

namespace Go.Proofs.YtpbplpnifjbkoabGreatDoor
open Go.RowKit

theorem ne_of_obj {w : World} {a b : Nat} {o o' : Obj} (h : w.heap[a]? = some o) (h' : w.heap[b]? = some o') (hne : o ≠ o') : a ≠ b := by
  rintro rfl
  rw [h] at h'
  exact hne (by simpa using h')
theorem plainO_cells {cs : Array Value} {T : TypeId} {z : Nat × Nat} (h : T ≠ 180 ∧ T ≠ 187 ∧ T ≠ 116) : plainO (.cells cs T z) := by
  rintro cs' T' z' e
  cases e
  exact h
theorem plainO_map {es : Array MapEntry} {c : Nat} : plainO (.map es c) := by
  rintro cs' T' z' e
  cases e

/-- Names by which variables were read. -/
def QN (n0 : Nat) (ns : List Bytes) (n : Nat) (s : ByteArray) : Prop := n0 + 1 ≤ n ∧ ∃ x, ns[n - (n0 + 1)]? = some x ∧ s = bs x
theorem QN.ext {n0 : Nat} {ns l : List Bytes} {n : Nat} {s : ByteArray} (h : QN n0 ns n s) : QN n0 (ns ++ l) n s := by
  obtain ⟨h1, x, h2, h3⟩ := h
  exact ⟨h1, x, by rw [List.getElem?_append_left (List.getElem?_eq_some_iff.1 h2).1]; exact h2, h3⟩
/-- The same, the block of each variable besides. -/
def QB (n0 : Nat) (ns : List Bytes) (bl : List Nat) (n b : Nat) (s : ByteArray) : Prop := QN n0 ns n s ∧ bl[n - (n0 + 1)]? = some b
theorem QB.ext {n0 : Nat} {ns l : List Bytes} {bl k : List Nat} {n b : Nat} {s : ByteArray} (h : QB n0 ns bl n b s) : QB n0 (ns ++ l) (bl ++ k) n b s :=
  ⟨h.1.ext, by rw [List.getElem?_append_left (List.getElem?_eq_some_iff.1 h.2).1]; exact h.2⟩
/-- A type as it was read, its variables' blocks told of. -/
def TyB [Inhabited Low] (Q : Nat → Nat → ByteArray → Prop) (w : World) : Ty → Value → Prop
  | .var n, v => ∃ b nm, v = vV b ∧ Fnd w (vV b) (vV b) ∧ w.heap[b]? = some (varO n .nilIface nm) ∧ Q n b nm
  | .int, v => ∃ c, v = cV c ∧ w.heap[c]? = some (conO kInt (.slice none 0 0))
  | .bool, v => ∃ c, v = cV c ∧ w.heap[c]? = some (conO kBool (.slice none 0 0))
  | .list a, v => ∃ c sv va, v = cV c ∧ w.heap[c]? = some (conO kList sv) ∧ RowV w sv [va] ∧ TyB Q w a va
  | .pair a b, v => ∃ c sv va vb, v = cV c ∧ w.heap[c]? = some (conO kPair sv) ∧ RowV w sv [va, vb] ∧ TyB Q w a va ∧ TyB Q w b vb
  | .arr a b, v => ∃ c sv va vb, v = cV c ∧ w.heap[c]? = some (conO kFun sv) ∧ RowV w sv [va, vb] ∧ TyB Q w a va ∧ TyB Q w b vb
theorem TyB.td [Inhabited Low] {Q : Nat → Nat → ByteArray → Prop} {Q' : Nat → ByteArray → Prop} {w : World} (hQ : ∀ n b s, Q n b s → Q' n s) : ∀ {t : Ty} {v : Value}, TyB Q w t v → TyD Q' w t v
  | .var _, _, ⟨b, nm, h, h', h2, q⟩ => ⟨b, nm, h, h', h2, hQ _ _ _ q⟩
  | .int, _, h => h
  | .bool, _, h => h
  | .list _, _, ⟨c, sv, va, h, h1, h2, h3⟩ => ⟨c, sv, va, h, h1, h2, TyB.td hQ h3⟩
  | .pair _ _, _, ⟨c, sv, va, vb, h, h1, h2, h3, h4⟩ => ⟨c, sv, va, vb, h, h1, h2, TyB.td hQ h3, TyB.td hQ h4⟩
  | .arr _ _, _, ⟨c, sv, va, vb, h, h1, h2, h3, h4⟩ => ⟨c, sv, va, vb, h, h1, h2, TyB.td hQ h3, TyB.td hQ h4⟩
theorem TyB.mono [Inhabited Low] {Q Q' : Nat → Nat → ByteArray → Prop} {w : World} (hQ : ∀ n b s, Q n b s → Q' n b s) : ∀ {t : Ty} {v : Value}, TyB Q w t v → TyB Q' w t v
  | .var _, _, ⟨b, nm, h, h', h2, q⟩ => ⟨b, nm, h, h', h2, hQ _ _ _ q⟩
  | .int, _, h => h
  | .bool, _, h => h
  | .list _, _, ⟨c, sv, va, h, h1, h2, h3⟩ => ⟨c, sv, va, h, h1, h2, TyB.mono hQ h3⟩
  | .pair _ _, _, ⟨c, sv, va, vb, h, h1, h2, h3, h4⟩ => ⟨c, sv, va, vb, h, h1, h2, TyB.mono hQ h3, TyB.mono hQ h4⟩
  | .arr _ _, _, ⟨c, sv, va, vb, h, h1, h2, h3, h4⟩ => ⟨c, sv, va, vb, h, h1, h2, TyB.mono hQ h3, TyB.mono hQ h4⟩
theorem TyB.tq [Inhabited Low] {n0 : Nat} {ns : List Bytes} {bl : List Nat} {w : World} {t : Ty} {v : Value} (h : TyB (QB n0 ns bl) w t v) : TyD (QN n0 ns) w t v := h.td fun _ _ _ q => q.1
theorem TyB.shape [Inhabited Low] {Q : Nat → Nat → ByteArray → Prop} {w : World} {t : Ty} {v : Value} (h : TyB Q w t v) : (∃ b, v = vV b) ∨ ∃ c, v = cV c := (h.td (Q' := fun _ _ => True) fun _ _ _ _ => trivial).shape
theorem KV.tb [Inhabited Low] {M : List Nat} {w w' : World} (h : KV M w w') {Q : Nat → Nat → ByteArray → Prop} : ∀ {t : Ty} {v : Value}, TyB Q w t v → TyB Q w' t v
  | .var _, _, ⟨b, nm, e, f, h', q⟩ => ⟨b, nm, e, h.fnd _ _ f, h.root h', q⟩
  | .int, _, ⟨c, e, h'⟩ => ⟨c, e, h.con _ _ _ _ h' (.inl rfl)⟩
  | .bool, _, ⟨c, e, h'⟩ => ⟨c, e, h.con _ _ _ _ h' (.inl rfl)⟩
  | .list _, _, ⟨c, sv, va, e, h1, h2, h3⟩ => ⟨c, sv, va, e, h.con _ _ _ _ h1 (.inl rfl), h.row h2, KV.tb h h3⟩
  | .pair _ _, _, ⟨c, sv, va, vb, e, h1, h2, h3, h4⟩ => ⟨c, sv, va, vb, e, h.con _ _ _ _ h1 (.inl rfl), h.row h2, KV.tb h h3, KV.tb h h4⟩
  | .arr _ _, _, ⟨c, sv, va, vb, e, h1, h2, h3, h4⟩ => ⟨c, sv, va, vb, e, h.con _ _ _ _ h1 (.inl rfl), h.row h2, KV.tb h h3, KV.tb h h4⟩
/-- Variables' blocks, numbered on from n0. -/
def BlkAt [Inhabited Low] (w : World) (n0 : Nat) (bl : List Nat) : Prop := ∀ (i b : Nat), bl[i]? = some b → (∃ nm, w.heap[b]? = some (varO (n0 + 1 + i : Nat) .nilIface nm)) ∧ lowB ≤ b
theorem BlkAt.keep [Inhabited Low] {M : List Nat} {w w' : World} {n0 : Nat} {bl : List Nat} (h : BlkAt w n0 bl) (k : KV M w w') : BlkAt w' n0 bl := fun i b hb => by
  obtain ⟨⟨nm, h1⟩, h2⟩ := h i b hb
  exact ⟨⟨nm, k.root h1⟩, h2⟩

/-- A type that was read, as the program numbers its variables. -/
abbrev shT (n0 : Nat) (t : Ty) : Ty := t.ren (· + (n0 + 1))

/-- The map of names. -/
def NmAt [Inhabited Low] (w : World) (m n0 : Nat) (ns : List Bytes) (bl : List Nat) : Prop :=
  (bl.length = ns.length ∧ BlkAt w n0 bl) ∧ ∃ n f, n ≤ ns.length ∧ PMap w m n f ∧ (∀ x, x ∉ ns → f x = none) ∧ ∀ x, x ∈ ns → ∃ c, f x = some c ∧ w.heap[c]? = some (varO (n0 + 1 + ns.idxOf x : Nat) .nilIface (bs x)) ∧ lowB ≤ c ∧ bl[ns.idxOf x]? = some c
theorem NmAt.made [Inhabited Low] (w : World) (n0 : Nat) : NmAt (w.alloc (.map #[] 0)) w.heap.size n0 [] [] := ⟨⟨rfl, fun i b h => by simp at h⟩, 0, _, Nat.le_refl _, PMap.made w, fun _ _ => rfl, fun x h => by cases h⟩

theorem adv_len (ts : List Tok) : (adv ts).length ≤ ts.length := by
  match ts with
  | [] => simp [adv]
  | [_] => simp [adv]
  | _ :: _ :: r => simp [adv]
structure TC [Inhabited Low] (s : ByteArray) (r rd m a n0 : Nat) (ns : List Bytes) (bl : List Nat) (ts : List Tok) (w : World) : Prop where
  tr : RdOK 123 kwTyp s rd ts w
  ptr : w.heap[r]? = some (.cells #[.pointer (some ⟨rd, 0, none⟩), .map (some m), .pointer (some ⟨a, 0, none⟩)] 267 (0, 0))
  vars : w.heap[a]? = some (.cells #[.int .i64 (n0 + ns.length : Nat)] 113 (0, 0))
  nm : NmAt w m n0 ns bl
  few : n0 + ns.length + ts.length ≤ 100000
  tok : TOK ts
  lo : lowB ≤ w.heap.size
theorem TC.rdObj [Inhabited Low] {s : ByteArray} {r rd m a n0 : Nat} {ns : List Bytes} {bl : List Nat} {ts : List Tok} {w : World} (h : TC s r rd m a n0 ns bl ts w) : ∃ cs, w.heap[rd]? = some (.cells cs 200 (0, 0)) := by
  obtain ⟨hd, hat, _⟩ := h.tr.ex
  exact ⟨_, hat⟩
theorem TC.mObj [Inhabited Low] {s : ByteArray} {r rd m a n0 : Nat} {ns : List Bytes} {bl : List Nat} {ts : List Tok} {w : World} (h : TC s r rd m a n0 ns bl ts w) : ∃ es cl, w.heap[m]? = some (.map es cl) := by
  obtain ⟨_, n, f, _, h, _⟩ := h.nm
  exact h.obj
theorem TC.wf [Inhabited Low] {s : ByteArray} {r rd m a n0 : Nat} {ns : List Bytes} {bl : List Nat} {ts : List Tok} {w : World} (h : TC s r rd m a n0 ns bl ts w) : wfT ts := by
  obtain ⟨hd, _, _, ht⟩ := h.tr.ex
  exact ht.wf
/-- The token reader has gone on. -/
theorem TC.step [Inhabited Low] {s : ByteArray} {r rd m a n0 : Nat} {ns : List Bytes} {bl : List Nat} {ts : List Tok} {w w' : World} (h : TC s r rd m a n0 ns bl ts w) (hk : Keeps [rd] w w') (hr : RdOK 123 kwTyp s rd (adv ts) w') :
    TC s r rd m a n0 ns bl (adv ts) w' := by
  have hl := adv_len ts
  obtain ⟨cs, ho⟩ := h.rdObj
  have hf := h.few
  have hs : ∀ {k : Nat} {o : Obj}, w.heap[k]? = some o → (∀ cs z, o ≠ .cells cs 200 z) → w'.heap[k]? = some o := fun {k o} hk' hne => hk.some hk' (by
    simp only [List.mem_singleton]
    exact ne_of_obj hk' ho (hne _ _))
  refine ⟨hr, hs h.ptr (by simp), hs h.vars (by simp), ?_, by omega, h.tok.adv, Nat.le_trans h.lo hk.size⟩
  obtain ⟨⟨hbl, hba⟩, n, f, h1, h2, h3, h4⟩ := h.nm
  obtain ⟨es, cl, hm⟩ := h2.obj
  refine ⟨⟨hbl, fun i b hi => ?_⟩, n, f, h1, h2.same ((hs hm (by simp)).trans hm.symm), h3, fun x hx => ?_⟩
  · obtain ⟨⟨nm, e1⟩, e2⟩ := hba i b hi
    exact ⟨⟨nm, hs e1 (by simp)⟩, e2⟩
  · obtain ⟨c, e1, e2, e3⟩ := h4 x hx
    exact ⟨c, e1, hs e2 (by simp), e3⟩
theorem TC.rdkv [Inhabited Low] {s : ByteArray} {r rd m a n0 : Nat} {ns : List Bytes} {bl : List Nat} {ts : List Tok} {w w' : World} (h : TC s r rd m a n0 ns bl ts w) (hk : Keeps [rd] w w') : KV [rd, m, a] w w' := by
  obtain ⟨cs, ho⟩ := h.rdObj
  refine (hk.kv fun k hk o hko => ?_).mono (by simp)
  simp only [List.mem_singleton] at hk
  subst hk
  rw [ho] at hko
  cases hko
  exact plainO_cells (by decide)
/-- Nothing of the reader has turned. -/
theorem TC.keep [Inhabited Low] {s : ByteArray} {r rd m a n0 : Nat} {ns : List Bytes} {bl : List Nat} {ts : List Tok} {w w' : World} (h : TC s r rd m a n0 ns bl ts w) (hk : KV [] w w') : TC s r rd m a n0 ns bl ts w' := by
  refine ⟨⟨?_, h.tr.fit⟩, hk.blk h.ptr (by simp) (by simp), hk.blk h.vars (by simp) (by simp), ?_, h.few, h.tok, Nat.le_trans h.lo hk.size⟩
  · obtain ⟨hd, hat, hn, hts⟩ := h.tr.ex
    exact ⟨hd, hk.blk hat (by simp) (by simp), hn, hts⟩
  · obtain ⟨⟨hbl, hba⟩, n, f, h1, h2, h3, h4⟩ := h.nm
    obtain ⟨es, cl, hm⟩ := h2.obj
    refine ⟨⟨hbl, hba.keep hk⟩, n, f, h1, h2.same ((hk.blk hm (by simp) (by simp)).trans hm.symm), h3, fun x hx => ?_⟩
    obtain ⟨c, e1, e2, e3⟩ := h4 x hx
    exact ⟨c, e1, hk.root e2, e3⟩

theorem of_any (k : ByteArray) (sv : Value) (w : World) (hs : sv = .slice none 0 0 ∨ ∃ g n c, sv = .slice (some ⟨g, 0, none⟩) n c) : Calls Tryz.prog 137 #[.string k, sv] w fun e w' => e = .returned (cV w.heap.size) ∧ w.alloc (.cells #[.string k, sv] 187) = w' := by
  rcases hs with rfl | ⟨g, n, c, rfl⟩
  all_goals
    go_enter Tryz.func137, Tryz.ntmps137
    go_wp2
    go_ret
    exact ⟨rfl, rfl⟩
theorem newVar_any (w : World) (a : Nat) (n : Nat) (hb : w.heap[a]? = some (.cells #[.int .i64 n] 113 (0, 0))) (hn : n ≤ 1000000) : Calls Tryz.prog 139 #[.pointer (some ⟨a, 0, none⟩)] w fun e w' =>
    e = .returned (.pointer (some ⟨w.heap.size, 0, none⟩)) ∧ (w.setCell ⟨a, 0, none⟩ (.int .i64 (n + 1 : Nat))).alloc (varO (n + 1 : Nat) .nilIface ⟨#[]⟩) = w' := by
  have c0 : w.cell? ⟨a, 0, none⟩ = some (.int .i64 n) := cell_of_block hb 0
  have f0 := free_of_block hb 0
  clear hb
  go_enter Tryz.func139, Tryz.ntmps139
  go_wp2
  go_ret
  refine ⟨?_, ?_⟩
  · simp
  · rfl

/-- A kind with one part, with two, put together. -/
theorem mk_one [Inhabited Low] {Q : Nat → Nat → ByteArray → Prop} {w : World} {a : Ty} {va : Value} (h : TyB Q w a va) : TyB Q ((w.alloc (.cells #[va] 116)).alloc (conO kList (.slice (some ⟨w.heap.size, 0, none⟩) 1 1))) (.list a) (cV (w.heap.size + 1)) := by
  have hk := (((Keeps.refl [] w).alloc (.cells #[va] 116)).alloc (conO kList (.slice (some ⟨w.heap.size, 0, none⟩) 1 1))).kv0
  have hb := block_alloc (w.alloc (.cells #[va] 116)) (conO kList (.slice (some ⟨w.heap.size, 0, none⟩) 1 1))
  have hs : (w.alloc (.cells #[va] 116)).heap.size = w.heap.size + 1 := by simp
  rw [hs] at hb
  have hg := block_alloc_old (o' := conO kList (.slice (some ⟨w.heap.size, 0, none⟩) 1 1)) (block_alloc w (.cells #[va] 116))
  refine ⟨_, _, va, rfl, hb, ⟨_, 1, _, rfl, hg, fun j v hj => ?_⟩, hk.tb h⟩
  simpa using hj
theorem mk_two [Inhabited Low] {Q : Nat → Nat → ByteArray → Prop} {w : World} {a b : Ty} {va vb : Value} (k : Bytes) (h : TyB Q w a va) (h' : TyB Q w b vb) :
    let w2 := (w.alloc (.cells #[va, vb] 116)).alloc (conO k (.slice (some ⟨w.heap.size, 0, none⟩) 2 2))
    w2.heap[w.heap.size + 1]? = some (conO k (.slice (some ⟨w.heap.size, 0, none⟩) 2 2)) ∧ RowV w2 (.slice (some ⟨w.heap.size, 0, none⟩) 2 2) [va, vb] ∧ TyB Q w2 a va ∧ TyB Q w2 b vb := by
  have hk := (((Keeps.refl [] w).alloc (.cells #[va, vb] 116)).alloc (conO k (.slice (some ⟨w.heap.size, 0, none⟩) 2 2))).kv0
  have hb := block_alloc (w.alloc (.cells #[va, vb] 116)) (conO k (.slice (some ⟨w.heap.size, 0, none⟩) 2 2))
  have hs : (w.alloc (.cells #[va, vb] 116)).heap.size = w.heap.size + 1 := by simp
  rw [hs] at hb
  have hg := block_alloc_old (o' := conO k (.slice (some ⟨w.heap.size, 0, none⟩) 2 2)) (block_alloc w (.cells #[va, vb] 116))
  refine ⟨hb, ⟨_, 2, _, rfl, hg, fun j v hj => ?_⟩, hk.tb h, hk.tb h'⟩
  simpa using hj
theorem mk_arr [Inhabited Low] {Q : Nat → Nat → ByteArray → Prop} {w : World} {a b : Ty} {va vb : Value} (h : TyB Q w a va) (h' : TyB Q w b vb) :
    TyB Q ((w.alloc (.cells #[va, vb] 116)).alloc (conO kFun (.slice (some ⟨w.heap.size, 0, none⟩) 2 2))) (.arr a b) (cV (w.heap.size + 1)) := by
  obtain ⟨h1, h2, h3, h4⟩ := mk_two kFun h h'
  exact ⟨_, _, va, vb, rfl, h1, h2, h3, h4⟩
theorem mk_pair [Inhabited Low] {Q : Nat → Nat → ByteArray → Prop} {w : World} {a b : Ty} {va vb : Value} (h : TyB Q w a va) (h' : TyB Q w b vb) :
    TyB Q ((w.alloc (.cells #[va, vb] 116)).alloc (conO kPair (.slice (some ⟨w.heap.size, 0, none⟩) 2 2))) (.pair a b) (cV (w.heap.size + 1)) := by
  obtain ⟨h1, h2, h3, h4⟩ := mk_two kPair h h'
  exact ⟨_, _, va, vb, rfl, h1, h2, h3, h4⟩
theorem mk_int [Inhabited Low] {Q : Nat → Nat → ByteArray → Prop} (w : World) : TyB Q (w.alloc (conO kInt (.slice none 0 0))) .int (cV w.heap.size) := ⟨_, rfl, block_alloc w _⟩
theorem mk_bool [Inhabited Low] {Q : Nat → Nat → ByteArray → Prop} (w : World) : TyB Q (w.alloc (conO kBool (.slice none 0 0))) .bool (cV w.heap.size) := ⟨_, rfl, block_alloc w _⟩

/-- How a call of the reader ends. -/
def TPost [Inhabited Low] (s : ByteArray) (r rd m a n0 : Nat) (ns : List Bytes) (bl : List Nat) (w : World) (res : Except Nat ((Ty × List Bytes) × List Tok)) (e : Ending) (w' : World) : Prop :=
  match res with
  | .ok (q, ts) => ∃ bl' v, e = .returned v ∧ TyB (QB n0 q.2 bl') w' (shT n0 q.1) v ∧ TC s r rd m a n0 q.2 bl' ts w' ∧ KV [rd, m, a] w w' ∧ ∃ l k, q.2 = ns ++ l ∧ bl' = bl ++ k
  | .error p => e = .panicked [{ v := stopV p, recovered := false }] ∧ KV [rd, m, a] w w'
def WholeIH [Inhabited Low] (s : ByteArray) (r rd m a n0 n : Nat) : Prop :=
  ∀ ns {bl} ts w res, TC s r rd m a n0 ns bl ts w → pWhole n ns ts = some res → Calls Tryz.prog 124 #[.pointer (some ⟨r, 0, none⟩)] w (TPost s r rd m a n0 ns bl w res)
def OneIH [Inhabited Low] (s : ByteArray) (r rd m a n0 n : Nat) : Prop :=
  ∀ ns {bl} ts w res, TC s r rd m a n0 ns bl ts w → pOne n ns ts = some res → Calls Tryz.prog 152 #[.pointer (some ⟨r, 0, none⟩)] w (TPost s r rd m a n0 ns bl w res)
theorem terr [Inhabited Low] {s : ByteArray} {r rd m a n0 : Nat} {ns : List Bytes} {bl : List Nat} {w w' : World} {p : Nat} (hk : KV [rd, m, a] w w') : TPost s r rd m a n0 ns bl w (.error p) (.panicked [{ v := stopV p, recovered := false }]) w' := ⟨rfl, hk⟩

theorem keyword2_any (b : ByteArray) (w : World) : Calls Tryz.prog 123 #[.string b] w fun e w' => e = .returned (.bool (kwTyp b.data.toList).isSome) ∧ w = w' := by
  have e : (kwTyp b.data.toList).isSome = ((b.toList == [105, 110, 116]) || (b.toList == [98, 111, 111, 108])) := by
    rw [ByteArray.toList_eq]
    by_cases h1 : b.data.toList = [105, 110, 116]
    · simp [kwTyp, h1]
    · by_cases h2 : b.data.toList = [98, 111, 111, 108] <;> simp [kwTyp, h1, h2]
  rw [e]
  clear e
  cases h1 : (b.toList == [105, 110, 116]) <;> cases h2 : (b.toList == [98, 111, 111, 108])
  all_goals
    go_enter Tryz.func123, Tryz.ntmps123
    go_wp2
    go_ret
    exact ⟨rfl, rfl⟩
theorem kwTypFn : KwFn 123 kwTyp := ⟨keyword2_any, kwTyp_str, fun b W => by kernel_rfl⟩
/-- A name that is new: its variable, its number, the map. -/
theorem TC.fresh [Inhabited Low] {s : ByteArray} {r rd m a n0 : Nat} {ns : List Bytes} {bl : List Nat} {ts : List Tok} {w w2 w5 : World} {x : Bytes} {k : Nat} {f : Bytes → Option Nat} (h : TC s r rd m a n0 ns bl ts w) (hx : x ∉ ns) (hkn : k ≤ ns.length) (hl : n0 + (ns.length + 1) + ts.length ≤ 100000)
    (hblk : bl.length = ns.length ∧ BlkAt w n0 bl) (hf0 : ∀ y, y ∉ ns → f y = none) (hf1 : ∀ y, y ∈ ns → ∃ c, f y = some c ∧ w.heap[c]? = some (varO (n0 + 1 + ns.idxOf y : Nat) .nilIface (bs y)) ∧ lowB ≤ c ∧ bl[ns.idxOf y]? = some c)
    (hw2 : (w.setCell ⟨a, 0, none⟩ (.int .i64 (n0 + ns.length + 1 : Nat))).alloc (varO (n0 + ns.length + 1 : Nat) .nilIface ⟨#[]⟩) = w2)
    (hp : PMap w5 m (k + 1) fun y => if y = x then some w.heap.size else f y) (hg : (w2.setCell ⟨w.heap.size, 2, none⟩ (.string (bs x))).grownBy w5 (some m)) :
    TC s r rd m a n0 (ns ++ [x]) (bl ++ [w.heap.size]) ts w5 ∧ w5.heap[w.heap.size]? = some (varO (n0 + ns.length + 1 : Nat) .nilIface (bs x)) ∧ KV [rd, m, a] w w5 := by
  obtain ⟨es, cl, hm⟩ := h.mObj
  have hv := h.vars
  obtain ⟨cs, hrd⟩ := h.rdObj
  have hma : m ≠ a := ne_of_obj hm hv (by simp)
  have hka : Keeps [a] w (w.setCell ⟨a, 0, none⟩ (.int .i64 (n0 + ns.length + 1 : Nat))) := (Keeps.refl [a] w).setCell (.inl (by simp)) _
  have hk2 : Keeps [a] w w2 := hw2 ▸ hka.alloc _
  have hsz : (w.setCell ⟨a, 0, none⟩ (.int .i64 (n0 + ns.length + 1 : Nat))).heap.size = w.heap.size := by simp [World.setCell]
  have hb2 : w2.heap[w.heap.size]? = some (varO (n0 + ns.length + 1 : Nat) .nilIface ⟨#[]⟩) := by
    rw [← hw2, ← hsz]; exact block_alloc _ _
  have hva2 : w2.heap[a]? = some (.cells #[.int .i64 (n0 + ns.length + 1 : Nat)] 113 (0, 0)) := by
    rw [← hw2]
    refine block_alloc_old ?_
    simpa using block_setCell hv 0 (.int .i64 (n0 + ns.length + 1 : Nat))
  have hal := lt_of_some hv
  have hml := lt_of_some hm
  have hk3 : Keeps [a] w (w2.setCell ⟨w.heap.size, 2, none⟩ (.string (bs x))) := hk2.setCell (.inr (Nat.le_refl _)) _
  have hk5 : Keeps [a, m] w w5 := (hk3.mono (by simp)).grown hg (by rintro j e; cases e; exact .inl (by simp))
  have hb3 : (w2.setCell ⟨w.heap.size, 2, none⟩ (.string (bs x))).heap[w.heap.size]? = some (varO (n0 + ns.length + 1 : Nat) .nilIface (bs x)) := by simpa using block_setCell hb2 2 (.string (bs x))
  have hb5 : w5.heap[w.heap.size]? = some (varO (n0 + ns.length + 1 : Nat) .nilIface (bs x)) := by
    rw [hg.block _ (lt_of_some hb3) (by simp; omega)]; exact hb3
  have hva5 : w5.heap[a]? = some (.cells #[.int .i64 (n0 + ns.length + 1 : Nat)] 113 (0, 0)) := by
    have h3 : (w2.setCell ⟨w.heap.size, 2, none⟩ (.string (bs x))).heap[a]? = some (.cells #[.int .i64 (n0 + ns.length + 1 : Nat)] 113 (0, 0)) := block_setCell_other hva2 _ _ (by simp; omega)
    rw [hg.block _ (lt_of_some h3) (by simp; exact fun e => hma e.symm)]; exact h3
  have hs : ∀ {j : Nat} {o : Obj}, w.heap[j]? = some o → (∀ cs z, o ≠ .cells cs 113 z) → (∀ es c, o ≠ .map es c) → w5.heap[j]? = some o := fun {j o} hj h1 h2 => hk5.some hj (by
    simp only [List.mem_cons, List.not_mem_nil, or_false, not_or]
    exact ⟨ne_of_obj hj hv (h1 _ _), ne_of_obj hj hm (h2 _ _)⟩)
  refine ⟨⟨⟨?_, h.tr.fit⟩, hs h.ptr (by simp) (by simp), ?_, ?_, ?_, h.tok, Nat.le_trans h.lo hk5.size⟩, hb5, ?_⟩
  · obtain ⟨hd, hat, hn, hts⟩ := h.tr.ex
    exact ⟨hd, hs hat (by simp) (by simp), hn, hts⟩
  · rw [hva5]; simp [Nat.add_assoc]
  · refine ⟨⟨by simp [hblk.1], fun i b hi => ?_⟩, k + 1, _, by simp; omega, hp, fun y hy => ?_, fun y hy => ?_⟩
    · by_cases hil : i < bl.length
      · rw [List.getElem?_append_left hil] at hi
        obtain ⟨⟨nm, e1⟩, e2⟩ := hblk.2 i b hi
        exact ⟨⟨nm, hs e1 (by simp) (by simp)⟩, e2⟩
      · rw [List.getElem?_append_right (by omega)] at hi
        have hi0 : i - bl.length = 0 := by
          by_cases h0 : i - bl.length = 0
          · exact h0
          · obtain ⟨z, hz⟩ : ∃ z, i - bl.length = z + 1 := ⟨i - bl.length - 1, by omega⟩
            rw [hz] at hi; simp at hi
        rw [hi0] at hi
        simp at hi
        subst hi
        refine ⟨⟨bs x, ?_⟩, h.lo⟩
        rw [hb5, show n0 + 1 + i = n0 + ns.length + 1 by have := hblk.1; omega]
    · simp only [List.mem_append, List.mem_singleton, not_or] at hy
      simp only [hy.2, if_false]
      exact hf0 y hy.1
    · by_cases hyx : y = x
      · subst hyx
        refine ⟨w.heap.size, by simp, ?_, h.lo, ?_⟩
        · rw [hb5, List.idxOf_append]
          simp [hx]
          omega
        · rw [List.idxOf_append]
          simp [hx, hblk.1]
      · have hy' : y ∈ ns := by simpa [hyx] using hy
        obtain ⟨c, e1, e2, e3, e4⟩ := hf1 y hy'
        refine ⟨c, by simp [hyx, e1], ?_, e3, ?_⟩
        · rw [List.idxOf_append, if_pos hy']
          exact hs e2 (by simp) (by simp)
        · rw [List.idxOf_append, if_pos hy', List.getElem?_append_left (List.getElem?_eq_some_iff.1 e4).1]
          exact e4
  · simpa using hl
  · refine (hk5.kv fun j hj o ho => ?_).mono (by simp)
    simp only [List.mem_cons, List.not_mem_nil, or_false] at hj
    rcases hj with rfl | rfl
    · rw [hv] at ho; cases ho; exact plainO_cells (by decide)
    · rw [hm] at ho; cases ho; exact plainO_map
end Go.Proofs.YtpbplpnifjbkoabGreatDoor

namespace Go.Proofs.YtpbplpnifjbkoabGreatDoor
open Go.RowKit

set_option maxRecDepth 100000 in
set_option maxHeartbeats 4000000 in
theorem whole_any [Inhabited Low] (s : ByteArray) (r rd m a n0 n : Nat) (ih : WholeIH s r rd m a n0 n) (ihO : OneIH s r rd m a n0 n) : WholeIH s r rd m a n0 (n + 1) := by
  intro ns bl ts w0 res hC0 hres
  unfold pWhole at hres
  have HC0 := Lib.hid hC0
  have HR0 := Lib.hid hres
  have HI := Lib.hid ih
  have HO := Lib.hid ihO
  clear hC0 hres ih ihO
  go_enter Tryz.func124, Tryz.ntmps124
  go_wp2_with fail
  rcases bind_some HR0.out with ⟨p, hp, rfl⟩ | ⟨q1, ts1, hp, hrs⟩
  · refine (HO.out _ _ _ _ HC0.out hp).mono ?_
    rintro e w' ⟨rfl, hk⟩
    exact ⟨rfl, terr hk⟩
  refine (HO.out _ _ _ _ HC0.out hp).mono ?_
  rintro e w1 ⟨bbv1, v1, rfl, hv, hC, hk, hx⟩
  have HC1 := Lib.hid hC
  have HK1 := Lib.hid hk
  have HR1 := Lib.hid hrs
  have HV1 := Lib.hid hv
  have HX1 := Lib.hid hx
  obtain ⟨vt, vp, rfl⟩ : ∃ vt vp, v1 = .iface vt vp := by rcases hv.shape with ⟨_, rfl⟩ | ⟨_, rfl⟩ <;> exact ⟨_, _, rfl⟩
  clear hC hk hrs hp hv hx
  have c0 : w1.cell? ⟨r, 0, none⟩ = some (.pointer (some ⟨rd, 0, none⟩)) := cell_of_block HC1.out.ptr 0
  by_cases ha : headKind ts1 = .arrow
  · have hrs2 := HR1.out
    simp only [ha, if_true] at hrs2
    have HR2 := Lib.hid hrs2
    clear hrs2
    go_wp2_with fail
    refine (take_yes kwTypFn HC1.out.tr .arrow _ rfl ha (by decide) (by decide)).mono ?_
    rintro e w2 ⟨rfl, hr, hk⟩
    have HC2 := Lib.hid (HC1.out.step hk hr)
    have HK2 := Lib.hid (HK1.out.trans (HC1.out.rdkv hk) (fun _ h => .inl h))
    have HV2 := Lib.hid ((HC1.out.rdkv hk).tb HV1.out)
    clear hr hk ha c0
    go_wp2_with fail
    rcases bind_some HR2.out with ⟨p, hp, rfl⟩ | ⟨q2, ts2, hp, hrs⟩
    · refine (HI.out _ _ _ _ HC2.out hp).mono ?_
      rintro e w' ⟨rfl, hk⟩
      exact ⟨rfl, terr (HK2.out.trans hk (fun _ h => .inl h))⟩
    refine (HI.out _ _ _ _ HC2.out hp).mono ?_
    rintro e w3 ⟨bbv2, v2, rfl, hv, hC, hk, hx⟩
    obtain ⟨l1, k1, e1, f1⟩ := HX1.out
    obtain ⟨l2, k2, e2, f2⟩ := hx
    obtain rfl : res = .ok ((.arr q1.1 q2.1, q2.2), ts2) := by simpa using hrs.symm
    have HC3 := Lib.hid hC
    have HK3 := Lib.hid (HK2.out.trans hk (fun _ h => .inl h))
    have HV3 := Lib.hid ((hk.tb HV2.out).mono (Q' := QB n0 q2.2 bbv2) (fun k b x h => by rw [e2, f2]; exact h.ext))
    have HW3 := Lib.hid hv
    have HX3 := Lib.hid (show ∃ l k, q2.2 = ns ++ l ∧ bbv2 = bl ++ k from ⟨l1 ++ l2, k1 ++ k2, by rw [e2, e1, List.append_assoc], by rw [f2, f1, List.append_assoc]⟩)
    obtain ⟨ut, up, rfl⟩ : ∃ ut up, v2 = .iface ut up := by rcases hv.shape with ⟨_, rfl⟩ | ⟨_, rfl⟩ <;> exact ⟨_, _, rfl⟩
    clear hC hk hrs hp hv e1 e2 f1 f2
    go_wp2_with fail
    refine (of_any _ _ _ (.inr ⟨_, _, _, rfl⟩)).mono ?_
    rintro e w4 ⟨rfl, rfl⟩
    go_wp2
    go_ret
    have hkk := (((Keeps.refl [] w3).alloc (.cells #[.iface vt vp, .iface ut up] 116)).alloc (conO kFun (.slice (some ⟨w3.heap.size, 0, none⟩) 2 2))).kv0
    refine ⟨_, cV (w3.heap.size + 1), ?_, mk_arr HV3.out HW3.out, HC3.out.keep hkk, HK3.out.trans0 hkk, HX3.out⟩
    simp
  · have hrs2 := HR1.out
    simp only [ha, if_false] at hrs2
    obtain rfl : res = .ok (q1, ts1) := by simpa using hrs2.symm
    clear hrs2
    go_wp2_with fail
    refine (take_no HC1.out.tr .arrow _ rfl ha).mono ?_
    rintro e w2 ⟨rfl, rfl⟩
    go_wp2
    go_ret
    exact ⟨_, _, rfl, HV1.out, HC1.out, HK1.out, HX1.out⟩

set_option maxRecDepth 100000 in
set_option maxHeartbeats 4000000 in
theorem one_int [Inhabited Low] (s : ByteArray) (r rd m a n0 n : Nat) (ih : WholeIH s r rd m a n0 n) (ns : List Bytes) {bl : List Nat} (ts : List Tok) (w0 : World) (res : Except Nat ((Ty × List Bytes) × List Tok)) (hC0 : TC s r rd m a n0 ns bl ts w0) (h1 : headKind ts = .kInt)
    (hres : pOne (n + 1) ns ts = some res) : Calls Tryz.prog 152 #[.pointer (some ⟨r, 0, none⟩)] w0 (TPost s r rd m a n0 ns bl w0 res) := by
  unfold pOne at hres
  simp only [h1, reduceCtorEq, if_true, if_false] at hres
  have c0 : w0.cell? ⟨r, 0, none⟩ = some (.pointer (some ⟨rd, 0, none⟩)) := cell_of_block hC0.ptr 0
  have HC0 := Lib.hid hC0
  have HR0 := Lib.hid hres
  have HI := Lib.hid ih
  clear hC0 hres ih
  go_enter Tryz.func152, Tryz.ntmps152
  go_wp2_with fail
  refine (take_yes kwTypFn HC0.out.tr .kInt _ rfl h1 (by decide) (by decide)).mono ?_
  rintro e w1 ⟨rfl, hr, hk⟩
  have HC1 := Lib.hid (HC0.out.step hk hr)
  have HK1 := Lib.hid (HC0.out.rdkv hk)
  clear hr hk c0
  go_wp2_with fail
  refine (of_any _ _ _ (.inl rfl)).mono ?_
  rintro e w2 ⟨rfl, rfl⟩
  obtain rfl : res = .ok ((.int, ns), adv ts) := by have := HR0.out; simpa using this.symm
  go_wp2
  go_ret
  have hkk := ((Keeps.refl [] w1).alloc (conO kInt (.slice none 0 0))).kv0
  exact ⟨_, cV w1.heap.size, rfl, mk_int w1, HC1.out.keep hkk, HK1.out.trans0 hkk, [], [], by simp, by simp⟩

set_option maxRecDepth 100000 in
set_option maxHeartbeats 4000000 in
theorem one_bool [Inhabited Low] (s : ByteArray) (r rd m a n0 n : Nat) (ih : WholeIH s r rd m a n0 n) (ns : List Bytes) {bl : List Nat} (ts : List Tok) (w0 : World) (res : Except Nat ((Ty × List Bytes) × List Tok)) (hC0 : TC s r rd m a n0 ns bl ts w0) (h1 : headKind ts = .kBool)
    (hres : pOne (n + 1) ns ts = some res) : Calls Tryz.prog 152 #[.pointer (some ⟨r, 0, none⟩)] w0 (TPost s r rd m a n0 ns bl w0 res) := by
  unfold pOne at hres
  simp only [h1, reduceCtorEq, if_true, if_false] at hres
  have c0 : w0.cell? ⟨r, 0, none⟩ = some (.pointer (some ⟨rd, 0, none⟩)) := cell_of_block hC0.ptr 0
  have HC0 := Lib.hid hC0
  have HR0 := Lib.hid hres
  have HI := Lib.hid ih
  clear hC0 hres ih
  go_enter Tryz.func152, Tryz.ntmps152
  go_wp2_with fail
  refine (take_no HC0.out.tr .kInt _ rfl (by rw [h1]; decide)).mono ?_
  rintro e w' ⟨rfl, rfl⟩
  go_wp2_with fail
  refine (take_yes kwTypFn HC0.out.tr .kBool _ rfl h1 (by decide) (by decide)).mono ?_
  rintro e w1 ⟨rfl, hr, hk⟩
  have HC1 := Lib.hid (HC0.out.step hk hr)
  have HK1 := Lib.hid (HC0.out.rdkv hk)
  clear hr hk c0
  go_wp2_with fail
  refine (of_any _ _ _ (.inl rfl)).mono ?_
  rintro e w2 ⟨rfl, rfl⟩
  obtain rfl : res = .ok ((.bool, ns), adv ts) := by have := HR0.out; simpa using this.symm
  go_wp2
  go_ret
  have hkk := ((Keeps.refl [] w1).alloc (conO kBool (.slice none 0 0))).kv0
  exact ⟨_, cV w1.heap.size, rfl, mk_bool w1, HC1.out.keep hkk, HK1.out.trans0 hkk, [], [], by simp, by simp⟩

set_option maxRecDepth 100000 in
set_option maxHeartbeats 4000000 in
theorem one_list [Inhabited Low] (s : ByteArray) (r rd m a n0 n : Nat) (ih : WholeIH s r rd m a n0 n) (ns : List Bytes) {bl : List Nat} (ts : List Tok) (w0 : World) (res : Except Nat ((Ty × List Bytes) × List Tok)) (hC0 : TC s r rd m a n0 ns bl ts w0) (h1 : headKind ts = .lbr)
    (hres : pOne (n + 1) ns ts = some res) : Calls Tryz.prog 152 #[.pointer (some ⟨r, 0, none⟩)] w0 (TPost s r rd m a n0 ns bl w0 res) := by
  unfold pOne at hres
  simp only [h1, reduceCtorEq, if_true, if_false] at hres
  have c0 : w0.cell? ⟨r, 0, none⟩ = some (.pointer (some ⟨rd, 0, none⟩)) := cell_of_block hC0.ptr 0
  have HC0 := Lib.hid hC0
  have HR0 := Lib.hid hres
  have HI := Lib.hid ih
  clear hC0 hres ih
  go_enter Tryz.func152, Tryz.ntmps152
  go_wp2_with fail
  refine (take_no HC0.out.tr .kInt _ rfl (by rw [h1]; decide)).mono ?_
  rintro e w' ⟨rfl, rfl⟩
  go_wp2_with fail
  refine (take_no HC0.out.tr .kBool _ rfl (by rw [h1]; decide)).mono ?_
  rintro e w' ⟨rfl, rfl⟩
  go_wp2_with fail
  refine (take_yes kwTypFn HC0.out.tr .lbr _ rfl h1 (by decide) (by decide)).mono ?_
  rintro e w1 ⟨rfl, hr, hk⟩
  have HC1 := Lib.hid (HC0.out.step hk hr)
  have HK1 := Lib.hid (HC0.out.rdkv hk)
  clear hr hk c0
  go_wp2_with fail
  rcases bind_some HR0.out with ⟨p, hp, rfl⟩ | ⟨q1, ts2, hp, hrs⟩
  · refine (HI.out _ _ _ _ HC1.out hp).mono ?_
    rintro e w' ⟨rfl, hk⟩
    exact ⟨rfl, terr (HK1.out.trans hk (fun _ h => .inl h))⟩
  refine (HI.out _ _ _ _ HC1.out hp).mono ?_
  rintro e w2 ⟨bbv1, v1, rfl, hv, hC, hk, hx⟩
  have HC2 := Lib.hid hC
  have HK2 := Lib.hid (HK1.out.trans hk (fun _ h => .inl h))
  have HR2 := Lib.hid hrs
  have HV2 := Lib.hid hv
  have HX2 := Lib.hid hx
  obtain ⟨vt, vp, rfl⟩ : ∃ vt vp, v1 = .iface vt vp := by rcases hv.shape with ⟨_, rfl⟩ | ⟨_, rfl⟩ <;> exact ⟨_, _, rfl⟩
  clear hC hk hrs hp hv hx
  have c0 : w2.cell? ⟨r, 0, none⟩ = some (.pointer (some ⟨rd, 0, none⟩)) := cell_of_block HC2.out.ptr 0
  go_wp2_with fail
  rcases want_cases HR2.out with ⟨hne, rfl⟩ | ⟨heq, hrs⟩
  · refine (want_no HC2.out.tr .rbr _ rfl hne).mono ?_
    rintro e w' ⟨rfl, rfl⟩
    exact ⟨rfl, terr HK2.out⟩
  refine (want_yes kwTypFn HC2.out.tr .rbr _ rfl heq).mono ?_
  rintro e w3 ⟨rfl, hr, hk⟩
  have HC3 := Lib.hid (HC2.out.step hk (hr (by decide) (by decide)))
  have HK3 := Lib.hid (HK2.out.trans (HC2.out.rdkv hk) (fun _ h => .inl h))
  have HV3 := Lib.hid ((HC2.out.rdkv hk).tb HV2.out)
  clear hr hk heq c0
  obtain rfl : res = .ok ((.list q1.1, q1.2), adv ts2) := by simpa using hrs.symm
  clear hrs
  go_wp2_with fail
  refine (of_any _ _ _ (.inr ⟨_, _, _, rfl⟩)).mono ?_
  rintro e w4 ⟨rfl, rfl⟩
  go_wp2
  go_ret
  have hkk := (((Keeps.refl [] w3).alloc (.cells #[.iface vt vp] 116)).alloc (conO kList (.slice (some ⟨w3.heap.size, 0, none⟩) 1 1))).kv0
  refine ⟨_, cV (w3.heap.size + 1), ?_, mk_one HV3.out, HC3.out.keep hkk, HK3.out.trans0 hkk, HX2.out⟩
  simp

set_option maxRecDepth 100000 in
set_option maxHeartbeats 4000000 in
theorem one_par [Inhabited Low] (s : ByteArray) (r rd m a n0 n : Nat) (ih : WholeIH s r rd m a n0 n) (ns : List Bytes) {bl : List Nat} (ts : List Tok) (w0 : World) (res : Except Nat ((Ty × List Bytes) × List Tok)) (hC0 : TC s r rd m a n0 ns bl ts w0) (h1 : headKind ts = .lpar)
    (hres : pOne (n + 1) ns ts = some res) : Calls Tryz.prog 152 #[.pointer (some ⟨r, 0, none⟩)] w0 (TPost s r rd m a n0 ns bl w0 res) := by
  unfold pOne at hres
  simp only [h1, reduceCtorEq, if_true, if_false] at hres
  have c0 : w0.cell? ⟨r, 0, none⟩ = some (.pointer (some ⟨rd, 0, none⟩)) := cell_of_block hC0.ptr 0
  have HC0 := Lib.hid hC0
  have HR0 := Lib.hid hres
  have HI := Lib.hid ih
  clear hC0 hres ih
  go_enter Tryz.func152, Tryz.ntmps152
  go_wp2_with fail
  refine (take_no HC0.out.tr .kInt _ rfl (by rw [h1]; decide)).mono ?_
  rintro e w' ⟨rfl, rfl⟩
  go_wp2_with fail
  refine (take_no HC0.out.tr .kBool _ rfl (by rw [h1]; decide)).mono ?_
  rintro e w' ⟨rfl, rfl⟩
  go_wp2_with fail
  refine (take_no HC0.out.tr .lbr _ rfl (by rw [h1]; decide)).mono ?_
  rintro e w' ⟨rfl, rfl⟩
  go_wp2_with fail
  refine (take_yes kwTypFn HC0.out.tr .lpar _ rfl h1 (by decide) (by decide)).mono ?_
  rintro e w1 ⟨rfl, hr, hk⟩
  have HC1 := Lib.hid (HC0.out.step hk hr)
  have HK1 := Lib.hid (HC0.out.rdkv hk)
  clear hr hk c0
  go_wp2_with fail
  rcases bind_some HR0.out with ⟨p, hp, rfl⟩ | ⟨q1, ts2, hp, hrs⟩
  · refine (HI.out _ _ _ _ HC1.out hp).mono ?_
    rintro e w' ⟨rfl, hk⟩
    exact ⟨rfl, terr (HK1.out.trans hk (fun _ h => .inl h))⟩
  refine (HI.out _ _ _ _ HC1.out hp).mono ?_
  rintro e w2 ⟨bbv1, v1, rfl, hv, hC, hk, hx⟩
  have HC2 := Lib.hid hC
  have HK2 := Lib.hid (HK1.out.trans hk (fun _ h => .inl h))
  have HR2 := Lib.hid hrs
  have HV2 := Lib.hid hv
  have HX2 := Lib.hid hx
  obtain ⟨vt, vp, rfl⟩ : ∃ vt vp, v1 = .iface vt vp := by rcases hv.shape with ⟨_, rfl⟩ | ⟨_, rfl⟩ <;> exact ⟨_, _, rfl⟩
  clear hC hk hrs hp hv hx
  have c0 : w2.cell? ⟨r, 0, none⟩ = some (.pointer (some ⟨rd, 0, none⟩)) := cell_of_block HC2.out.ptr 0
  by_cases hcm : headKind ts2 = .comma
  · have hrs2 := HR2.out
    simp only [hcm, if_true] at hrs2
    have HR3 := Lib.hid hrs2
    clear hrs2
    go_wp2_with fail
    refine (take_yes kwTypFn HC2.out.tr .comma _ rfl hcm (by decide) (by decide)).mono ?_
    rintro e w3 ⟨rfl, hr, hk⟩
    have HC3 := Lib.hid (HC2.out.step hk hr)
    have HK3 := Lib.hid (HK2.out.trans (HC2.out.rdkv hk) (fun _ h => .inl h))
    have HV3 := Lib.hid ((HC2.out.rdkv hk).tb HV2.out)
    clear hr hk hcm c0
    go_wp2_with fail
    rcases bind_some HR3.out with ⟨p, hp, rfl⟩ | ⟨q2, ts4, hp, hrs⟩
    · refine (HI.out _ _ _ _ HC3.out hp).mono ?_
      rintro e w' ⟨rfl, hk⟩
      exact ⟨rfl, terr (HK3.out.trans hk (fun _ h => .inl h))⟩
    refine (HI.out _ _ _ _ HC3.out hp).mono ?_
    rintro e w4 ⟨bbv2, v2, rfl, hv, hC, hk, hx⟩
    obtain ⟨l1, k1, e1, f1⟩ := HX2.out
    obtain ⟨l2, k2, e2, f2⟩ := hx
    have HC4 := Lib.hid hC
    have HK4 := Lib.hid (HK3.out.trans hk (fun _ h => .inl h))
    have HR4 := Lib.hid hrs
    have HV4 := Lib.hid ((hk.tb HV3.out).mono (Q' := QB n0 q2.2 bbv2) (fun k b x h => by rw [e2, f2]; exact h.ext))
    have HW4 := Lib.hid hv
    have HX4 := Lib.hid (show ∃ l k, q2.2 = ns ++ l ∧ bbv2 = bl ++ k from ⟨l1 ++ l2, k1 ++ k2, by rw [e2, e1, List.append_assoc], by rw [f2, f1, List.append_assoc]⟩)
    obtain ⟨ut, up, rfl⟩ : ∃ ut up, v2 = .iface ut up := by rcases hv.shape with ⟨_, rfl⟩ | ⟨_, rfl⟩ <;> exact ⟨_, _, rfl⟩
    clear hC hk hrs hp hv e1 e2 f1 f2
    go_wp2_with fail
    refine (of_any _ _ _ (.inr ⟨_, _, _, rfl⟩)).mono ?_
    rintro e w5 ⟨rfl, rfl⟩
    have hkk := (((Keeps.refl [] w4).alloc (.cells #[.iface vt vp, .iface ut up] 116)).alloc (conO kPair (.slice (some ⟨w4.heap.size, 0, none⟩) 2 2))).kv0
    have HC5 := Lib.hid (HC4.out.keep hkk)
    have HK5 := Lib.hid (HK4.out.trans0 hkk)
    have HV5 := Lib.hid (mk_pair HV4.out HW4.out)
    have c0 : ((w4.alloc (.cells #[.iface vt vp, .iface ut up] 116)).alloc (conO kPair (.slice (some ⟨w4.heap.size, 0, none⟩) 2 2))).cell? ⟨r, 0, none⟩ = some (.pointer (some ⟨rd, 0, none⟩)) := cell_of_block HC5.out.ptr 0
    clear hkk
    have hrl := lt_of_some HC4.out.ptr
    have c0' : w4.cell? ⟨r, 0, none⟩ = some (.pointer (some ⟨rd, 0, none⟩)) := cell_of_block HC4.out.ptr 0
    clear c0
    go_wp2_with fail
    rcases want_cases HR4.out with ⟨hne, rfl⟩ | ⟨heq, hrs⟩
    · refine (want_no HC5.out.tr .rpar _ rfl hne).mono ?_
      rintro e w' ⟨rfl, rfl⟩
      exact ⟨rfl, terr HK5.out⟩
    refine (want_yes kwTypFn HC5.out.tr .rpar _ rfl heq).mono ?_
    rintro e w6 ⟨rfl, hr, hk⟩
    have HC6 := Lib.hid (HC5.out.step hk (hr (by decide) (by decide)))
    have HK6 := Lib.hid (HK5.out.trans (HC5.out.rdkv hk) (fun _ h => .inl h))
    have HV6 := Lib.hid ((HC5.out.rdkv hk).tb HV5.out)
    obtain rfl : res = .ok ((.pair q1.1 q2.1, q2.2), adv ts4) := by simpa using hrs.symm
    clear hr hk heq hrs c0'
    go_wp2
    go_ret
    refine ⟨_, cV (w4.heap.size + 1), ?_, HV6.out, HC6.out, HK6.out, HX4.out⟩
    simp
  · have hrs2 := HR2.out
    simp only [hcm, if_false] at hrs2
    have HR3 := Lib.hid hrs2
    clear hrs2
    go_wp2_with fail
    refine (take_no HC2.out.tr .comma _ rfl hcm).mono ?_
    rintro e w' ⟨rfl, rfl⟩
    go_wp2_with fail
    rcases want_cases HR3.out with ⟨hne, rfl⟩ | ⟨heq, hrs⟩
    · refine (want_no HC2.out.tr .rpar _ rfl hne).mono ?_
      rintro e w' ⟨rfl, rfl⟩
      exact ⟨rfl, terr HK2.out⟩
    refine (want_yes kwTypFn HC2.out.tr .rpar _ rfl heq).mono ?_
    rintro e w4 ⟨rfl, hr, hk⟩
    have HC4 := Lib.hid (HC2.out.step hk (hr (by decide) (by decide)))
    have HK4 := Lib.hid (HK2.out.trans (HC2.out.rdkv hk) (fun _ h => .inl h))
    have HV4 := Lib.hid ((HC2.out.rdkv hk).tb HV2.out)
    clear hr hk heq c0
    obtain rfl : res = .ok (q1, adv ts2) := by simpa using hrs.symm
    clear hrs
    go_wp2
    go_ret
    exact ⟨_, _, rfl, HV4.out, HC4.out, HK4.out, HX2.out⟩

set_option maxRecDepth 100000 in
set_option maxHeartbeats 4000000 in
theorem one_name [Inhabited Low] (s : ByteArray) (r rd m a n0 n : Nat) (ih : WholeIH s r rd m a n0 n) (ns : List Bytes) {bl : List Nat} (ts : List Tok) (w0 : World) (res : Except Nat ((Ty × List Bytes) × List Tok)) (hC0 : TC s r rd m a n0 ns bl ts w0) (h1 : headKind ts ≠ .kInt) (h2 : headKind ts ≠ .kBool) (h3 : headKind ts ≠ .lbr) (h4 : headKind ts ≠ .lpar)
    (hres : pOne (n + 1) ns ts = some res) : Calls Tryz.prog 152 #[.pointer (some ⟨r, 0, none⟩)] w0 (TPost s r rd m a n0 ns bl w0 res) := by
  unfold pOne at hres
  simp only [h1, h2, h3, h4, if_false] at hres
  have c0 : w0.cell? ⟨r, 0, none⟩ = some (.pointer (some ⟨rd, 0, none⟩)) := cell_of_block hC0.ptr 0
  have HC0 := Lib.hid hC0
  have HR0 := Lib.hid hres
  have HI := Lib.hid ih
  clear hC0 hres ih
  go_enter Tryz.func152, Tryz.ntmps152
  go_wp2_with fail
  refine (take_no HC0.out.tr .kInt _ rfl h1).mono ?_
  rintro e w' ⟨rfl, rfl⟩
  go_wp2_with fail
  refine (take_no HC0.out.tr .kBool _ rfl h2).mono ?_
  rintro e w' ⟨rfl, rfl⟩
  go_wp2_with fail
  refine (take_no HC0.out.tr .lbr _ rfl h3).mono ?_
  rintro e w' ⟨rfl, rfl⟩
  go_wp2_with fail
  refine (take_no HC0.out.tr .lpar _ rfl h4).mono ?_
  rintro e w' ⟨rfl, rfl⟩
  go_wp2_with fail
  rcases want_cases HR0.out with ⟨hne, rfl⟩ | ⟨heq, hrs⟩
  · refine (want_no HC0.out.tr .name _ rfl hne).mono ?_
    rintro e w' ⟨rfl, rfl⟩
    exact ⟨rfl, terr (KV.refl _ _)⟩
  have hlen := (adv_kind HC0.out.wf heq (by decide) (by decide)).2.1
  refine (want_yes kwTypFn HC0.out.tr .name _ rfl heq).mono ?_
  rintro e w1 ⟨rfl, hr, hk⟩
  have hrd := hr (by decide) (by decide)
  have HC1 := Lib.hid (HC0.out.step hk hrd)
  have HK1 := Lib.hid (HC0.out.rdkv hk)
  obtain rfl : res = .ok ((.var (ns.idxOf (headText ts)), addName (headText ts) ns), adv ts) := by simpa using hrs.symm
  have hfew := HC0.out.few
  have hsz : (bs (headText ts)).size ≤ maxLen := by
    have := (HC0.out.tok.head heq).2.2.1
    rw [bs_size]; unfold maxLen; omega
  obtain ⟨x, hxx⟩ : ∃ x, headText ts = x := ⟨_, rfl⟩
  rw [hxx] at hsz ⊢
  have HXX := Lib.hid hxx
  clear hxx
  have HSZ := Lib.hid hsz
  clear hr hrd hk hrs heq c0 hsz h1 h2 h3 h4
  have c0 : w1.cell? ⟨r, 0, none⟩ = some (.pointer (some ⟨rd, 0, none⟩)) := cell_of_block HC1.out.ptr 0
  have c1 : w1.cell? ⟨r, 1, none⟩ = some (.map (some m)) := cell_of_block HC1.out.ptr 1
  have c2 : w1.cell? ⟨r, 2, none⟩ = some (.pointer (some ⟨a, 0, none⟩)) := cell_of_block HC1.out.ptr 2
  obtain ⟨hblk, k, f, hkn, hpm, hf0, hf1⟩ := HC1.out.nm
  have hlk := hpm.look _ HSZ.out
  rw [bs_data] at hlk
  by_cases hx : x ∈ ns
  · obtain ⟨c, e1, e2, e3, e4⟩ := hf1 x hx
    rw [e1] at hlk
    have HL := Lib.hid e2
    have HLO := Lib.hid e3
    have HBL := Lib.hid e4
    clear e1 e2 e3 e4 hpm hf0 hf1 hblk
    simp only [ptrOf] at hlk
    go_wp2
    go_ret
    have hadd : addName x ns = ns := by simp [addName, hx]
    rw [HXX.out, hadd]
    refine ⟨bl, vV c, rfl, ?_, HC1.out, HK1.out, [], [], by simp, by simp⟩
    refine ⟨c, bs x, rfl, .root rfl HL.out HLO.out, ?_, ?_⟩
    · have := HL.out
      rw [show n0 + 1 + List.idxOf x ns = List.idxOf x ns + (n0 + 1) by omega] at this
      exact this
    · exact ⟨⟨Nat.le_add_left _ _, x, by simp [List.getElem?_eq_getElem (List.idxOf_lt_length_of_mem hx)], rfl⟩, by rw [show List.idxOf x ns + (n0 + 1) - (n0 + 1) = List.idxOf x ns by omega]; exact HBL.out⟩
  · rw [hf0 x hx] at hlk
    simp only [ptrOf] at hlk
    have HPM := Lib.hid hpm
    have HF0 := Lib.hid hf0
    have HBK := Lib.hid hblk
    have HF1 := Lib.hid hf1
    have hv := HC1.out.vars
    have HVR := Lib.hid hv
    clear hpm hf0 hf1 hv hblk
    go_wp2_with fail
    refine (newVar_any w1 a (n0 + ns.length) HVR.out (by omega)).mono ?_
    rintro e w2 ⟨rfl, hw2⟩
    have HW2 := Lib.hid hw2
    have hsz1 : (w1.setCell ⟨a, 0, none⟩ (.int .i64 (n0 + ns.length + 1 : Nat))).heap.size = w1.heap.size := by simp [World.setCell]
    have hb2 : w2.heap[w1.heap.size]? = some (varO (n0 + ns.length + 1 : Nat) .nilIface ⟨#[]⟩) := by rw [← hw2, ← hsz1]; exact block_alloc _ _
    have hk2 : Keeps [a] w1 w2 := by rw [← hw2]; exact ((Keeps.refl [a] w1).setCell (.inl (by simp)) _).alloc _
    have hra : r ≠ a := ne_of_obj HC1.out.ptr HVR.out (by simp)
    obtain ⟨es, cl, hmo⟩ := HC1.out.mObj
    have hma : m ≠ a := ne_of_obj hmo HVR.out (by simp)
    have d1 : w2.cell? ⟨r, 1, none⟩ = some (.map (some m)) := cell_of_block (hk2.some HC1.out.ptr (by simpa using hra)) 1
    have d2 : w2.cell? ⟨w1.heap.size, 2, none⟩ = some (.string ⟨#[]⟩) := cell_of_block hb2 2
    have d3 := free_of_block hb2 2
    have hrl := lt_of_some HC1.out.ptr
    have hml := lt_of_some hmo
    have hr2 : r ≠ w1.heap.size := by omega
    have HP3 := Lib.hid (show PMap (w2.setCell ⟨w1.heap.size, 2, none⟩ (.string (bs x))) m k f from HPM.out.same (by rw [Below.heap_setCell _ _ _ _ (by simp; omega)]; exact hk2.block m hml (by simpa using hma)))
    clear hw2 hsz1 hb2 hk2 hra hmo hma hlk c0 c1 c2
    obtain ⟨w5, hrun, hp5, hg5⟩ := HP3.out.store (by unfold maxLen; omega) (bs x) HSZ.out w1.heap.size
    rw [bs_data] at hp5
    have hlk5 := hp5.look _ HSZ.out
    rw [bs_data] at hlk5
    simp only [if_true, ptrOf] at hlk5
    obtain ⟨hC5, hB5, hK5⟩ := HC1.out.fresh hx hkn (by omega) HBK.out HF0.out HF1.out HW2.out hp5 hg5
    have d5 : w5.cell? ⟨r, 1, none⟩ = some (.map (some m)) := cell_of_block hC5.ptr 1
    have HC5 := Lib.hid hC5
    have HB5 := Lib.hid hB5
    have HK5 := Lib.hid (HK1.out.trans hK5 (fun _ h => .inl h))
    clear hC5 hB5 hK5 hp5 hg5
    go_wp2
    go_ret
    have hadd : addName x ns = ns ++ [x] := by simp [addName, hx]
    rw [HXX.out, hadd]
    refine ⟨bl ++ [w1.heap.size], vV w1.heap.size, rfl, ?_, HC5.out, HK5.out, [x], [w1.heap.size], rfl, rfl⟩
    refine ⟨w1.heap.size, bs x, rfl, .root rfl HB5.out HC1.out.lo, ?_, ?_⟩
    · have := HB5.out
      rw [show n0 + ns.length + 1 = List.idxOf x ns + (n0 + 1) by rw [List.idxOf_eq_length hx]; omega] at this
      exact this
    · refine ⟨⟨Nat.le_add_left _ _, x, ?_, rfl⟩, ?_⟩
      · rw [List.idxOf_eq_length hx]
        simp
      · rw [List.idxOf_eq_length hx, show ns.length + (n0 + 1) - (n0 + 1) = bl.length by have := HBK.out.1; omega]
        simp

theorem types_reader [Inhabited Low] (s : ByteArray) (r rd m a n0 : Nat) : ∀ n, WholeIH s r rd m a n0 n ∧ OneIH s r rd m a n0 n := by
  intro n
  induction n with
  | zero => exact ⟨fun ns bl ts w res _ h => by simp [pWhole] at h, fun ns bl ts w res _ h => by simp [pOne] at h⟩
  | succ n ih =>
    refine ⟨whole_any s r rd m a n0 n ih.1 ih.2, fun ns bl ts w res h hres => ?_⟩
    by_cases h1 : headKind ts = .kInt
    · exact one_int s r rd m a n0 n ih.1 ns ts w res h h1 hres
    by_cases h2 : headKind ts = .kBool
    · exact one_bool s r rd m a n0 n ih.1 ns ts w res h h2 hres
    by_cases h3 : headKind ts = .lbr
    · exact one_list s r rd m a n0 n ih.1 ns ts w res h h3 hres
    by_cases h4 : headKind ts = .lpar
    · exact one_par s r rd m a n0 n ih.1 ns ts w res h h4 hres
    exact one_name s r rd m a n0 n ih.1 ns ts w res h h1 h2 h3 h4 hres
end Go.Proofs.YtpbplpnifjbkoabGreatDoor

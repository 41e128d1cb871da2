/-
  Types with what variables have become, as the inference binds them: where each variable lies, what a step may turn.
-/
import Derived.Test.YtpbplpnifjbkoabGreatDoorTval
import Derived.Test.YtpbplpnifjbkoabGreatDoorEng
import Derived.Deep.RegionHeld3
namespace Go.Proofs.YtpbplpnifjbkoabGreatDoor
open Go.RowKit

/-- Blocks that no type is made of: those that are still being filled. -/
structure Bar where
  bar : List Nat
abbrev barB [Inhabited Bar] : List Nat := (default : Bar).bar
def ConE [Inhabited Bar] (w : World) (c : Nat) (k : Bytes) (sv : Value) : Prop := c ∉ barB ∧ w.heap[c]? = some (conO k sv)
def RowE [Inhabited Bar] (w : World) (sv : Value) (vs : List Value) : Prop :=
  ∃ g cap cs, sv = .slice (some ⟨g, 0, none⟩) vs.length cap ∧ g ∉ barB ∧ w.heap[g]? = some (.cells cs 116 (0, 0)) ∧ ∀ (j : Nat) (v : Value), vs[j]? = some v → cs[j]? = some v
theorem RowE.v [Inhabited Bar] {w : World} {sv : Value} {vs : List Value} (h : RowE w sv vs) : RowV w sv vs := by
  obtain ⟨g, cap, cs, h1, _, h2, h3⟩ := h
  exact ⟨g, cap, cs, h1, h2, h3⟩
theorem RowE.to [Inhabited Bar] {w w' : World} {sv : Value} {vs : List Value} (h : RowE w sv vs) (hc : ∀ (k : Nat) cs T z, w.heap[k]? = some (.cells cs T z) → T = 187 ∨ T = 116 → w'.heap[k]? = some (.cells cs T z)) : RowE w' sv vs := by
  obtain ⟨g, cap, cs, h1, hb, h2, h3⟩ := h
  exact ⟨g, cap, cs, h1, hb, hc _ _ _ _ h2 (.inr rfl), h3⟩
/-- A value stands for a type; vb: where each variable lies. -/
def TyE [Inhabited Low] [Inhabited Bar] (vb : List Nat) (w : World) : Ty → Value → Prop
  | .var n, v => ∃ b nm, 1 ≤ n ∧ vb[n - 1]? = some b ∧ Fnd w v (vV b) ∧ w.heap[b]? = some (varO n .nilIface nm)
  | .int, v => ∃ c, Fnd w v (cV c) ∧ ConE w c kInt (.slice none 0 0)
  | .bool, v => ∃ c, Fnd w v (cV c) ∧ ConE w c kBool (.slice none 0 0)
  | .list a, v => ∃ c sv va, Fnd w v (cV c) ∧ ConE w c kList sv ∧ RowE w sv [va] ∧ TyE vb w a va
  | .pair a b, v => ∃ c sv va vc, Fnd w v (cV c) ∧ ConE w c kPair sv ∧ RowE w sv [va, vc] ∧ TyE vb w a va ∧ TyE vb w b vc
  | .arr a b, v => ∃ c sv va vc, Fnd w v (cV c) ∧ ConE w c kFun sv ∧ RowE w sv [va, vc] ∧ TyE vb w a va ∧ TyE vb w b vc

theorem TyE.tv [Inhabited Low] [Inhabited Bar] {vb : List Nat} {w : World} : ∀ {t : Ty} {v : Value}, TyE vb w t v → TyV (fun _ _ => True) w t v
  | .var _, _, ⟨b, nm, _, _, h, h'⟩ => ⟨b, nm, h, h', trivial⟩
  | .int, _, ⟨c, f, h⟩ => ⟨c, f, h.2⟩
  | .bool, _, ⟨c, f, h⟩ => ⟨c, f, h.2⟩
  | .list _, _, ⟨c, sv, va, h, h1, h2, h3⟩ => ⟨c, sv, va, h, h1.2, h2.v, TyE.tv h3⟩
  | .pair _ _, _, ⟨c, sv, va, vc, h, h1, h2, h3, h4⟩ => ⟨c, sv, va, vc, h, h1.2, h2.v, TyE.tv h3, TyE.tv h4⟩
  | .arr _ _, _, ⟨c, sv, va, vc, h, h1, h2, h3, h4⟩ => ⟨c, sv, va, vc, h, h1.2, h2.v, TyE.tv h3, TyE.tv h4⟩
theorem TyE.more [Inhabited Low] [Inhabited Bar] {vb m : List Nat} {w : World} : ∀ {t : Ty} {v : Value}, TyE vb w t v → TyE (vb ++ m) w t v
  | .var n, _, ⟨b, nm, h1, h2, h, h'⟩ => ⟨b, nm, h1, by rw [List.getElem?_append_left (List.getElem?_eq_some_iff.1 h2).1]; exact h2, h, h'⟩
  | .int, _, h => h
  | .bool, _, h => h
  | .list _, _, ⟨c, sv, va, h, h1, h2, h3⟩ => ⟨c, sv, va, h, h1, h2, TyE.more h3⟩
  | .pair _ _, _, ⟨c, sv, va, vc, h, h1, h2, h3, h4⟩ => ⟨c, sv, va, vc, h, h1, h2, TyE.more h3, TyE.more h4⟩
  | .arr _ _, _, ⟨c, sv, va, vc, h, h1, h2, h3, h4⟩ => ⟨c, sv, va, vc, h, h1, h2, TyE.more h3, TyE.more h4⟩
theorem KV.te [Inhabited Low] [Inhabited Bar] {M : List Nat} {w w' : World} (h : KV M w w') {vb : List Nat} : ∀ {t : Ty} {v : Value}, TyE vb w t v → TyE vb w' t v
  | .var _, _, ⟨b, nm, h1, h2, f, h'⟩ => ⟨b, nm, h1, h2, h.fnd _ _ f, h.root h'⟩
  | .int, _, ⟨c, f, h'⟩ => ⟨c, h.fnd _ _ f, h'.1, h.con _ _ _ _ h'.2 (.inl rfl)⟩
  | .bool, _, ⟨c, f, h'⟩ => ⟨c, h.fnd _ _ f, h'.1, h.con _ _ _ _ h'.2 (.inl rfl)⟩
  | .list _, _, ⟨c, sv, va, f, h1, h2, h3⟩ => ⟨c, sv, va, h.fnd _ _ f, ⟨h1.1, h.con _ _ _ _ h1.2 (.inl rfl)⟩, h2.to h.con, KV.te h h3⟩
  | .pair _ _, _, ⟨c, sv, va, vc, f, h1, h2, h3, h4⟩ => ⟨c, sv, va, vc, h.fnd _ _ f, ⟨h1.1, h.con _ _ _ _ h1.2 (.inl rfl)⟩, h2.to h.con, KV.te h h3, KV.te h h4⟩
  | .arr _ _, _, ⟨c, sv, va, vc, f, h1, h2, h3, h4⟩ => ⟨c, sv, va, vc, h.fnd _ _ f, ⟨h1.1, h.con _ _ _ _ h1.2 (.inl rfl)⟩, h2.to h.con, KV.te h h3, KV.te h h4⟩
theorem TyE.fnd [Inhabited Low] [Inhabited Bar] {vb : List Nat} {w : World} {t : Ty} {v : Value} (h : TyE vb w t v) : ∃ r, Fnd w v r := h.tv.fnd
theorem TyE.shape [Inhabited Low] [Inhabited Bar] {vb : List Nat} {w : World} {t : Ty} {v : Value} (h : TyE vb w t v) : (∃ b, v = vV b) ∨ ∃ c, v = cV c := h.tv.shape

/-- The same at the end of the chain, taken apart. -/
def ResE [Inhabited Low] [Inhabited Bar] (vb : List Nat) (w : World) : Ty → Value → Prop
  | .var n, r => ∃ b nm, 1 ≤ n ∧ vb[n - 1]? = some b ∧ r = vV b ∧ lowB ≤ b ∧ w.heap[b]? = some (varO n .nilIface nm)
  | .int, r => ∃ c, r = cV c ∧ ConE w c kInt (.slice none 0 0)
  | .bool, r => ∃ c, r = cV c ∧ ConE w c kBool (.slice none 0 0)
  | .list a, r => ∃ c sv va, r = cV c ∧ ConE w c kList sv ∧ RowE w sv [va] ∧ TyE vb w a va
  | .pair a b, r => ∃ c sv va vc, r = cV c ∧ ConE w c kPair sv ∧ RowE w sv [va, vc] ∧ TyE vb w a va ∧ TyE vb w b vc
  | .arr a b, r => ∃ c sv va vc, r = cV c ∧ ConE w c kFun sv ∧ RowE w sv [va, vc] ∧ TyE vb w a va ∧ TyE vb w b vc
theorem TyE.res [Inhabited Low] [Inhabited Bar] {vb : List Nat} {w : World} {t : Ty} {v r : Value} (h : TyE vb w t v) (hf : Fnd w v r) : ResE vb w t r := by
  cases t with
  | var n =>
    obtain ⟨b, nm, h1, h2, h, h'⟩ := h
    refine ⟨b, nm, h1, h2, hf.det h, ?_, h'⟩
    exact (h.self).low
  | int => obtain ⟨c, h, h'⟩ := h; exact ⟨c, hf.det h, h'⟩
  | bool => obtain ⟨c, h, h'⟩ := h; exact ⟨c, hf.det h, h'⟩
  | list a => obtain ⟨c, sv, va, h, h'⟩ := h; exact ⟨c, sv, va, hf.det h, h'⟩
  | pair a b => obtain ⟨c, sv, va, vc, h, h'⟩ := h; exact ⟨c, sv, va, vc, hf.det h, h'⟩
  | arr a b => obtain ⟨c, sv, va, vc, h, h'⟩ := h; exact ⟨c, sv, va, vc, hf.det h, h'⟩
theorem ResE.te [Inhabited Low] [Inhabited Bar] {vb : List Nat} {w : World} {t : Ty} {r v : Value} (h : ResE vb w t r) (hf : Fnd w v r) : TyE vb w t v := by
  cases t with
  | var n => obtain ⟨b, nm, h1, h2, rfl, _, h'⟩ := h; exact ⟨b, nm, h1, h2, hf, h'⟩
  | int => obtain ⟨c, rfl, h'⟩ := h; exact ⟨c, hf, h'⟩
  | bool => obtain ⟨c, rfl, h'⟩ := h; exact ⟨c, hf, h'⟩
  | list a => obtain ⟨c, sv, va, rfl, h'⟩ := h; exact ⟨c, sv, va, hf, h'⟩
  | pair a b => obtain ⟨c, sv, va, vc, rfl, h'⟩ := h; exact ⟨c, sv, va, vc, hf, h'⟩
  | arr a b => obtain ⟨c, sv, va, vc, rfl, h'⟩ := h; exact ⟨c, sv, va, vc, hf, h'⟩
/-- The end of a chain stands for the same. -/
theorem TyE.root [Inhabited Low] [Inhabited Bar] {vb : List Nat} {w : World} {t : Ty} {v r : Value} (h : TyE vb w t v) (hf : Fnd w v r) : TyE vb w t r := (h.res hf).te hf.self
theorem TyE.via [Inhabited Low] [Inhabited Bar] {vb : List Nat} {w : World} {t : Ty} {v r : Value} (h : TyE vb w t r) (hs : Fnd w r r) (hf : Fnd w v r) : TyE vb w t v := (h.res hs).te hf

/-! ### What a step may turn -/
/-- Below the end only the blocks in M, and what variables have become, may have turned. -/
structure K0 [Inhabited Low] (M : List Nat) (w w' : World) : Prop where
  os : w'.os = w.os
  tape : w'.tape = w.tape
  output : w'.output = w.output
  size : w.heap.size ≤ w'.heap.size
  low : ∀ k, k < lowB → k < w.heap.size → k ∉ M → w'.heap[k]? = w.heap[k]?
  block : ∀ (k : Nat) (o : Obj), w.heap[k]? = some o → k ∉ M → (∀ N u nm, o ≠ varO N u nm) → w'.heap[k]? = some o
  con : ∀ (k : Nat) cs T z, w.heap[k]? = some (.cells cs T z) → T = 187 ∨ T = 116 → w'.heap[k]? = some (.cells cs T z)
  var : ∀ (k : Nat) N u nm, w.heap[k]? = some (varO N u nm) → ∃ u', w'.heap[k]? = some (varO N u' nm)
theorem KV.k0 [Inhabited Low] {M : List Nat} {w w' : World} (h : KV M w w') : K0 M w w' := ⟨h.os, h.tape, h.output, h.size, h.low, h.block, h.con, fun k N u nm hk => by obtain ⟨u', h1, _⟩ := h.var k N u nm hk; exact ⟨u', h1⟩⟩
theorem K0.refl [Inhabited Low] (M : List Nat) (w : World) : K0 M w w := (KV.refl M w).k0
theorem K0.mono [Inhabited Low] {M M' : List Nat} {w w' : World} (h : K0 M w w') (hM : ∀ m ∈ M, m ∈ M') : K0 M' w w' :=
  ⟨h.os, h.tape, h.output, h.size, fun k hk hs hn => h.low k hk hs (fun hm => hn (hM k hm)), fun k o hk hn => h.block k o hk (fun hm => hn (hM k hm)), h.con, h.var⟩
theorem K0.trans [Inhabited Low] {M M' : List Nat} {a b c : World} (h : K0 M a b) (k : K0 M' b c) (hM : ∀ m ∈ M', m ∈ M ∨ a.heap.size ≤ m) : K0 M a c :=
  ⟨k.os.trans h.os, k.tape.trans h.tape, k.output.trans h.output, Nat.le_trans h.size k.size,
    fun i hi hs hn => (k.low i hi (Nat.lt_of_lt_of_le hs h.size) (fun hm => (hM i hm).elim hn (fun hge => by omega))).trans (h.low i hi hs hn),
    fun i o ho hn hv => k.block i o (h.block i o ho hn hv) (fun hm => (hM i hm).elim hn (fun hge => by have := lt_of_some ho; omega)) hv,
    fun i cs T z ho hT => k.con i cs T z (h.con i cs T z ho hT) hT,
    fun i N u nm ho => by obtain ⟨u', h1⟩ := h.var i N u nm ho; exact k.var i N u' nm h1⟩
theorem K0.transM [Inhabited Low] {M : List Nat} {a b c : World} (h : K0 M a b) (k : K0 M b c) : K0 M a c := h.trans k fun _ => .inl
theorem K0.keeps [Inhabited Low] {M : List Nat} {w w' : World} (h : K0 M w w') (hl : w.heap.size ≤ lowB) : Keeps M w w' := ⟨h.os, h.tape, h.output, h.size, fun k hk hn => h.low k (by omega) hk hn⟩
theorem K0.row [Inhabited Low] {M : List Nat} {w w' : World} (h : K0 M w w') {sv : Value} {vs : List Value} (hr : RowV w sv vs) : RowV w' sv vs := by
  obtain ⟨g, cap, cs, h1, h2, h3⟩ := hr
  exact ⟨g, cap, cs, h1, h.con _ _ _ _ h2 (.inr rfl), h3⟩
theorem K0.rowC [Inhabited Low] {M : List Nat} {w w' : World} (h : K0 M w w') {ad : Option Addr} {vs : List Value} (hr : RowC w ad vs) : RowC w' ad vs := by
  intro j v hj
  obtain ⟨g, cs, h1, h2, h3⟩ := hr j v hj
  exact ⟨g, cs, h1, h.con _ _ _ _ h2 (.inr rfl), h3⟩

/-! ### Substitutions -/
/-- All that is found out is found out to the end. -/
def Sub.fix (S : Sub) : Prop := ∀ (i : Nat) t, S[i]? = some t → t.ap S = t
theorem look_cases (S : Sub) (n : Nat) : (∃ t, S[n - 1]? = some t ∧ Sub.look S n = t) ∨ (S[n - 1]? = none ∧ Sub.look S n = .var n) := by
  unfold Sub.look
  rw [List.getD_eq_getElem?_getD]
  cases h : S[n - 1]? with
  | some t => exact .inl ⟨t, rfl, rfl⟩
  | none => exact .inr ⟨rfl, rfl⟩
theorem ap_fix {S : Sub} (h : S.fix) (t : Ty) : (t.ap S).ap S = t.ap S := by
  induction t with
  | var n =>
    rcases look_cases S n with ⟨t, h1, h2⟩ | ⟨_, h2⟩
    · simp only [Ty.ap]; rw [h2]; exact h _ _ h1
    · simp only [Ty.ap]; rw [h2]; exact h2
  | int => rfl
  | bool => rfl
  | list a ih => simp only [Ty.ap, ih]
  | pair a b iha ihb => simp only [Ty.ap, iha, ihb]
  | arr a b iha ihb => simp only [Ty.ap, iha, ihb]
theorem ap_bind {S : Sub} {x : Nat} {u : Ty} (hx : ∃ t, S[x - 1]? = some t) (h1 : 1 ≤ x) (t : Ty) : t.ap (Sub.bind S x u) = Ty.sub1 x u (t.ap S) := by
  induction t with
  | var n =>
    simp only [Ty.ap]
    unfold Sub.look Sub.bind
    rw [List.getD_eq_getElem?_getD, List.getD_eq_getElem?_getD, List.getElem?_map]
    cases h : S[n - 1]? with
    | some t => rfl
    | none =>
      obtain ⟨t, ht⟩ := hx
      have hne : n ≠ x := by rintro rfl; rw [h] at ht; cases ht
      simp [Ty.sub1, hne]
  | int => rfl
  | bool => rfl
  | list a ih => simp only [Ty.ap, Ty.sub1, ih]
  | pair a b iha ihb => simp only [Ty.ap, Ty.sub1, iha, ihb]
  | arr a b iha ihb => simp only [Ty.ap, Ty.sub1, iha, ihb]
theorem sub1_none {x : Nat} {u t : Ty} (h : t.hasB x = false) : Ty.sub1 x u t = t := by
  induction t with
  | var n =>
    simp only [Ty.hasB, beq_eq_false_iff_ne] at h
    simp only [Ty.sub1]
    rw [if_neg (Ne.symm h)]
  | int => rfl
  | bool => rfl
  | list a ih => simp only [Ty.sub1, ih h]
  | pair a b iha ihb => simp only [Ty.hasB, Bool.or_eq_false_iff] at h; simp only [Ty.sub1, iha h.1, ihb h.2]
  | arr a b iha ihb => simp only [Ty.hasB, Bool.or_eq_false_iff] at h; simp only [Ty.sub1, iha h.1, ihb h.2]
theorem sub1_hasB {x : Nat} {u : Ty} (hu : u.hasB x = false) (t : Ty) : (Ty.sub1 x u t).hasB x = false := by
  induction t with
  | var n =>
    simp only [Ty.sub1]
    by_cases h : n = x
    · rw [if_pos h]; exact hu
    · rw [if_neg h]; simp only [Ty.hasB, beq_eq_false_iff_ne]; exact Ne.symm h
  | int => rfl
  | bool => rfl
  | list a ih => exact ih
  | pair a b iha ihb => simp only [Ty.sub1, Ty.hasB, iha, ihb, Bool.or_self]
  | arr a b iha ihb => simp only [Ty.sub1, Ty.hasB, iha, ihb, Bool.or_self]
theorem sub1_ap {S : Sub} {x : Nat} {u t : Ty} (ht : t.ap S = t) (hu : u.ap S = u) : (Ty.sub1 x u t).ap S = Ty.sub1 x u t := by
  induction t with
  | var n =>
    simp only [Ty.sub1]
    by_cases h : n = x
    · rw [if_pos h]; exact hu
    · rw [if_neg h]; exact ht
  | int => rfl
  | bool => rfl
  | list a ih => simp only [Ty.ap, Ty.list.injEq] at ht; simp only [Ty.sub1, Ty.ap, ih ht]
  | pair a b iha ihb => simp only [Ty.ap, Ty.pair.injEq] at ht; simp only [Ty.sub1, Ty.ap, iha ht.1, ihb ht.2]
  | arr a b iha ihb => simp only [Ty.ap, Ty.arr.injEq] at ht; simp only [Ty.sub1, Ty.ap, iha ht.1, ihb ht.2]
theorem fix_bind {S : Sub} (h : S.fix) {x : Nat} {u : Ty} (hx : ∃ t, S[x - 1]? = some t) (h1 : 1 ≤ x) (hu : u.ap S = u) (ho : u.hasB x = false) : Sub.fix (Sub.bind S x u) := by
  intro i t ht
  unfold Sub.bind at ht
  rw [List.getElem?_map] at ht
  obtain ⟨t0, h0, rfl⟩ := Option.map_eq_some_iff.1 ht
  rw [ap_bind hx h1, sub1_ap (h i t0 h0) hu, sub1_none (sub1_hasB ho t0)]
theorem ap_push (S : Sub) (t : Ty) (h0 : S ≠ []) : t.ap (S ++ [.var (S.length + 1)]) = t.ap S := by
  induction t with
  | var n =>
    simp only [Ty.ap]
    unfold Sub.look
    rw [List.getD_eq_getElem?_getD, List.getD_eq_getElem?_getD]
    rcases Nat.lt_trichotomy (n - 1) S.length with h | h | h
    · rw [List.getElem?_append_left h]
    · have hn : n = S.length + 1 := by
        have : 0 < S.length := List.length_pos_iff.2 h0
        omega
      subst hn
      simp
    · rw [List.getElem?_append_right (by omega), List.getElem?_eq_none (by simp; omega), List.getElem?_eq_none (by omega)]
  | int => rfl
  | bool => rfl
  | list a ih => simp only [Ty.ap, ih]
  | pair a b iha ihb => simp only [Ty.ap, iha, ihb]
  | arr a b iha ihb => simp only [Ty.ap, iha, ihb]

/-! ### The state -/
/-- Where variables lie, what they have become, how many there are (ab: the block that counts them). -/
structure Eng [Inhabited Low] [Inhabited Bar] (ab : Nat) (vb : List Nat) (S : Sub) (w : World) : Prop where
  len : vb.length = S.length
  few : S.length ≤ 100000
  lo : lowB ≤ w.heap.size
  bar : ∀ x ∈ barB, x < w.heap.size
  at_ : ∀ (i : Nat) b t, vb[i]? = some b → S[i]? = some t → TyE vb w t (vV b)
  fix : S.fix
  cnt : w.heap[ab]? = some (.cells #[.int .i64 S.length] 113)
/-- A step of the inference. -/
structure Stp [Inhabited Low] [Inhabited Bar] (M vb : List Nat) (S : Sub) (w : World) (vb' : List Nat) (S' : Sub) (w' : World) : Prop where
  k0 : K0 M w w'
  ext : ∃ m, vb' = vb ++ m
  ty : ∀ (t : Ty) (v : Value), TyE vb w (t.ap S) v → TyE vb' w' (t.ap S') v
theorem Stp.refl [Inhabited Low] [Inhabited Bar] (M vb : List Nat) (S : Sub) (w : World) : Stp M vb S w vb S w := ⟨K0.refl M w, ⟨[], by simp⟩, fun _ _ h => h⟩
theorem Stp.trans [Inhabited Low] [Inhabited Bar] {M vb vb' vb'' : List Nat} {S S' S'' : Sub} {w w' w'' : World} (h : Stp M vb S w vb' S' w') (k : Stp M vb' S' w' vb'' S'' w'') : Stp M vb S w vb'' S'' w'' :=
  ⟨h.k0.transM k.k0, by obtain ⟨m, rfl⟩ := h.ext; obtain ⟨m', rfl⟩ := k.ext; exact ⟨m ++ m', by simp⟩, fun t v ht => k.ty t v (h.ty t v ht)⟩
theorem KV.stp [Inhabited Low] [Inhabited Bar] {M : List Nat} {w w' : World} (h : KV M w w') (vb : List Nat) (S : Sub) : Stp M vb S w vb S w' := ⟨h.k0, ⟨[], by simp⟩, fun _ _ ht => h.te ht⟩
theorem varsO_ne {n N : Int} {u : Value} {nm : ByteArray} : (Obj.cells #[.int .i64 n] 113) ≠ varO N u nm := by
  intro h
  simp only [Obj.cells.injEq] at h
  exact absurd h.2.1 (by decide)
theorem Eng.kv [Inhabited Low] [Inhabited Bar] {ab : Nat} {vb : List Nat} {S : Sub} {M : List Nat} {w w' : World} (h : Eng ab vb S w) (k : KV M w w') (hM : ab ∉ M) : Eng ab vb S w' :=
  ⟨h.len, h.few, Nat.le_trans h.lo k.size, fun x hx => Nat.lt_of_lt_of_le (h.bar x hx) k.size, fun i b t hb ht => k.te (h.at_ i b t hb ht), h.fix, k.block _ _ h.cnt hM fun _ _ _ => varsO_ne⟩
/-- What each variable stands for. -/
theorem Eng.var [Inhabited Low] [Inhabited Bar] {ab : Nat} {vb : List Nat} {S : Sub} {w : World} (h : Eng ab vb S w) {n b : Nat} (_h1 : 1 ≤ n) (hb : vb[n - 1]? = some b) : TyE vb w ((Ty.var n).ap S) (vV b) := by
  have hlt := (List.getElem?_eq_some_iff.1 hb).1
  rw [h.len] at hlt
  have := h.at_ (n - 1) b S[n - 1] hb (List.getElem?_eq_getElem hlt)
  simp only [Ty.ap]
  unfold Sub.look
  rw [List.getD_eq_getElem?_getD, List.getElem?_eq_getElem hlt]
  exact this

/-! ### A variable becomes something -/
theorem setvar_other {w : World} {b : Nat} {N : Int} {u r : Value} {nm : ByteArray} (hb : w.heap[b]? = some (varO N u nm)) {k : Nat} {cs : Array Value} {T : TypeId} {z : Nat × Nat} (hk : w.heap[k]? = some (.cells cs T z)) (hT : T = 187 ∨ T = 116) : (w.setCell ⟨b, 1, none⟩ r).heap[k]? = some (.cells cs T z) := by
  refine block_setCell_other hk _ _ ?_
  rintro rfl
  rw [hb] at hk
  simp only [Option.some.injEq, Obj.cells.injEq] at hk
  rcases hT with e | e <;> exact absurd (hk.2.1.trans e) (by decide)
theorem k0_bind [Inhabited Low] {w : World} {b : Nat} {N : Int} {u r : Value} {nm : ByteArray} (hb : w.heap[b]? = some (varO N u nm)) (hl : lowB ≤ b) : K0 [] w (w.setCell ⟨b, 1, none⟩ r) :=
  ⟨rfl, rfl, rfl, by simp [World.setCell], fun k hk _ _ => Below.heap_setCell w _ _ k (by simp; omega), fun k o hk _ hv => block_setCell_other hk _ _ (by rintro rfl; rw [hb] at hk; cases hk; exact hv _ _ _ rfl), fun k cs T z hk hT => setvar_other hb hk hT, fun k N' u' nm' hk => by
    by_cases e : k = b
    · subst e
      obtain ⟨rfl, rfl, rfl⟩ := varO_inj hb hk
      exact ⟨r, by simpa using block_setCell hb 1 r⟩
    · exact ⟨u', block_setCell_other hk _ _ e⟩⟩
/-- Chains behind a binding. -/
theorem fnd_bind [Inhabited Low] {w : World} {b : Nat} {N : Int} {r : Value} {nm : ByteArray} (hb : w.heap[b]? = some (varO N .nilIface nm)) (hl : lowB ≤ b) (hr : Fnd w r r) (hne : r ≠ vV b) {v r0 : Value} (h : Fnd w v r0) :
    (r0 = vV b → Fnd (w.setCell ⟨b, 1, none⟩ r) v r) ∧ (r0 ≠ vV b → Fnd (w.setCell ⟨b, 1, none⟩ r) v r0) := by
  have hb' : (w.setCell ⟨b, 1, none⟩ r).heap[b]? = some (varO N r nm) := by simpa using block_setCell hb 1 r
  have ho : ∀ (k : Nat) (o : Obj), w.heap[k]? = some o → k ≠ b → (w.setCell ⟨b, 1, none⟩ r).heap[k]? = some o := fun k o hk hne => block_setCell_other hk _ _ hne
  have hrr : Fnd (w.setCell ⟨b, 1, none⟩ r) r r := by
    rcases hr.shape with ⟨c, M, nm', rfl, hc, hl'⟩ | ⟨c, rfl⟩
    · exact .root rfl (ho _ _ hc (fun e => hne (e ▸ rfl))) hl'
    · exact .con rfl
  induction h with
  | root hv hk hl' =>
    rename_i v k N' nm'
    subst hv
    refine ⟨fun e => ?_, fun e => .root rfl (ho _ _ hk fun h => e (h ▸ rfl)) hl'⟩
    obtain rfl := vV_inj e
    exact .step rfl hb' hr.ne hl hrr
  | con hv =>
    subst hv
    exact ⟨fun e => (vV_cV e.symm).elim, fun _ => .con rfl⟩
  | step hv hk hu hl' _ ih =>
    rename_i v u' r' k N' nm' _
    have hkb : k ≠ b := by
      rintro rfl
      exact hu (varO_inj hb hk).2.1.symm
    exact ⟨fun e => .step hv (ho _ _ hk hkb) hu hl' (ih.1 e), fun e => .step hv (ho _ _ hk hkb) hu hl' (ih.2 e)⟩
theorem te_none [Inhabited Low] [Inhabited Bar] {vb : List Nat} {w : World} {b x : Nat} {r : Value} {nm : ByteArray} (hb : w.heap[b]? = some (varO x .nilIface nm)) (hl : lowB ≤ b) (hr : Fnd w r r) (hne : r ≠ vV b) :
    ∀ {t : Ty} {v : Value}, t.hasB x = false → TyE vb w t v → TyE vb (w.setCell ⟨b, 1, none⟩ r) t v
  | .var n, v, hx, ⟨b0, nm0, h1, h2, f, h'⟩ => by
    have hne0 : b0 ≠ b := by
      rintro rfl
      have := (varO_inj hb h').1
      simp only [Ty.hasB, beq_eq_false_iff_ne] at hx
      omega
    have hf := (fnd_bind hb hl hr hne f).2 (fun e => hne0 (vV_inj e))
    exact ⟨b0, nm0, h1, h2, hf, block_setCell_other h' _ _ hne0⟩
  | .int, v, _, ⟨c, f, h'⟩ => by
    have hf := (fnd_bind hb hl hr hne f).2 (fun e => (vV_cV e.symm).elim)
    exact ⟨c, hf, ⟨h'.1, setvar_other hb h'.2 (.inl rfl)⟩⟩
  | .bool, v, _, ⟨c, f, h'⟩ => by
    have hf := (fnd_bind hb hl hr hne f).2 (fun e => (vV_cV e.symm).elim)
    exact ⟨c, hf, ⟨h'.1, setvar_other hb h'.2 (.inl rfl)⟩⟩
  | .list a, v, hx, ⟨c, sv, va, f, h', h2, h3⟩ => by
    have hf := (fnd_bind hb hl hr hne f).2 (fun e => (vV_cV e.symm).elim)
    exact ⟨c, sv, va, hf, ⟨h'.1, setvar_other hb h'.2 (.inl rfl)⟩, h2.to (k0_bind hb hl).con, te_none hb hl hr hne hx h3⟩
  | .pair a a', v, hx, ⟨c, sv, va, vc, f, h', h2, h3, h4⟩ => by
    have hf := (fnd_bind hb hl hr hne f).2 (fun e => (vV_cV e.symm).elim)
    simp only [Ty.hasB, Bool.or_eq_false_iff] at hx
    exact ⟨c, sv, va, vc, hf, ⟨h'.1, setvar_other hb h'.2 (.inl rfl)⟩, h2.to (k0_bind hb hl).con, te_none hb hl hr hne hx.1 h3, te_none hb hl hr hne hx.2 h4⟩
  | .arr a a', v, hx, ⟨c, sv, va, vc, f, h', h2, h3, h4⟩ => by
    have hf := (fnd_bind hb hl hr hne f).2 (fun e => (vV_cV e.symm).elim)
    simp only [Ty.hasB, Bool.or_eq_false_iff] at hx
    exact ⟨c, sv, va, vc, hf, ⟨h'.1, setvar_other hb h'.2 (.inl rfl)⟩, h2.to (k0_bind hb hl).con, te_none hb hl hr hne hx.1 h3, te_none hb hl hr hne hx.2 h4⟩
theorem te_bind [Inhabited Low] [Inhabited Bar] {vb : List Nat} {w : World} {b x : Nat} {u : Ty} {r : Value} {nm : ByteArray} (hvb : vb[x - 1]? = some b) (hb : w.heap[b]? = some (varO x .nilIface nm)) (hl : lowB ≤ b) (hr : Fnd w r r) (hne : r ≠ vV b) (hu : TyE vb w u r) (ho : u.hasB x = false) :
    ∀ {t : Ty} {v : Value}, TyE vb w t v → TyE vb (w.setCell ⟨b, 1, none⟩ r) (Ty.sub1 x u t) v
  | .var n, v, ⟨b0, nm0, h1, h2, f, h'⟩ => by
    have hf := fnd_bind hb hl hr hne f
    simp only [Ty.sub1]
    by_cases hnx : n = x
    · rw [if_pos hnx]
      subst hnx
      rw [hvb] at h2
      cases h2
      exact (te_none hb hl hr hne ho hu).via ((fnd_bind hb hl hr hne hr).2 hne) (hf.1 rfl)
    · rw [if_neg hnx]
      have hne0 : b0 ≠ b := by
        rintro rfl
        have := (varO_inj hb h').1
        omega
      exact ⟨b0, nm0, h1, h2, hf.2 (fun e => hne0 (vV_inj e)), block_setCell_other h' _ _ hne0⟩
  | .int, v, ⟨c, f, h'⟩ => by
    have hf := (fnd_bind hb hl hr hne f).2 (fun e => (vV_cV e.symm).elim)
    exact ⟨c, hf, ⟨h'.1, setvar_other hb h'.2 (.inl rfl)⟩⟩
  | .bool, v, ⟨c, f, h'⟩ => by
    have hf := (fnd_bind hb hl hr hne f).2 (fun e => (vV_cV e.symm).elim)
    exact ⟨c, hf, ⟨h'.1, setvar_other hb h'.2 (.inl rfl)⟩⟩
  | .list a, v, ⟨c, sv, va, f, h', h2, h3⟩ => by
    have hf := (fnd_bind hb hl hr hne f).2 (fun e => (vV_cV e.symm).elim)
    exact ⟨c, sv, va, hf, ⟨h'.1, setvar_other hb h'.2 (.inl rfl)⟩, h2.to (k0_bind hb hl).con, te_bind hvb hb hl hr hne hu ho h3⟩
  | .pair a a', v, ⟨c, sv, va, vc, f, h', h2, h3, h4⟩ => by
    have hf := (fnd_bind hb hl hr hne f).2 (fun e => (vV_cV e.symm).elim)
    exact ⟨c, sv, va, vc, hf, ⟨h'.1, setvar_other hb h'.2 (.inl rfl)⟩, h2.to (k0_bind hb hl).con, te_bind hvb hb hl hr hne hu ho h3, te_bind hvb hb hl hr hne hu ho h4⟩
  | .arr a a', v, ⟨c, sv, va, vc, f, h', h2, h3, h4⟩ => by
    have hf := (fnd_bind hb hl hr hne f).2 (fun e => (vV_cV e.symm).elim)
    exact ⟨c, sv, va, vc, hf, ⟨h'.1, setvar_other hb h'.2 (.inl rfl)⟩, h2.to (k0_bind hb hl).con, te_bind hvb hb hl hr hne hu ho h3, te_bind hvb hb hl hr hne hu ho h4⟩
/-- A variable is bound. -/
theorem bind_step [Inhabited Low] [Inhabited Bar] {ab : Nat} {vb : List Nat} {S : Sub} {w : World} (hE : Eng ab vb S w) {x b : Nat} {u : Ty} {r : Value} {nm : ByteArray} (h1 : 1 ≤ x) (hvb : vb[x - 1]? = some b) (hb : w.heap[b]? = some (varO x .nilIface nm)) (hl : lowB ≤ b)
    (hr : Fnd w r r) (hu : TyE vb w u r) (hfx : u.ap S = u) (ho : u.hasB x = false) :
    Stp [] vb S w vb (Sub.bind S x u) (w.setCell ⟨b, 1, none⟩ r) ∧ Eng ab vb (Sub.bind S x u) (w.setCell ⟨b, 1, none⟩ r) := by
  have hne : r ≠ vV b := by
    rintro rfl
    cases u with
    | var n =>
      obtain ⟨b0, nm0, k1, k2, f, h'⟩ := hu
      have := vV_inj (hr.det f)
      subst this
      have := (varO_inj hb h').1
      simp only [Ty.hasB, beq_eq_false_iff_ne] at ho
      omega
    | int => obtain ⟨c, f, _⟩ := hu; exact (vV_cV (hr.det f)).elim
    | bool => obtain ⟨c, f, _⟩ := hu; exact (vV_cV (hr.det f)).elim
    | list a => obtain ⟨c, sv, va, f, _⟩ := hu; exact (vV_cV (hr.det f)).elim
    | pair a a' => obtain ⟨c, sv, va, vc, f, _⟩ := hu; exact (vV_cV (hr.det f)).elim
    | arr a a' => obtain ⟨c, sv, va, vc, f, _⟩ := hu; exact (vV_cV (hr.det f)).elim
  have hx : ∃ t, S[x - 1]? = some t := by
    have hlt := (List.getElem?_eq_some_iff.1 hvb).1
    rw [hE.len] at hlt
    exact ⟨_, List.getElem?_eq_getElem hlt⟩
  refine ⟨⟨k0_bind hb hl, ⟨[], by simp⟩, fun t v ht => ?_⟩, ⟨?_, ?_, Nat.le_trans hE.lo (by simp [World.setCell]), fun x hx => Nat.lt_of_lt_of_le (hE.bar x hx) (by simp [World.setCell]), fun i c t hc ht => ?_, fix_bind hE.fix hx h1 hfx ho, ?_⟩⟩
  · rw [ap_bind hx h1]; exact te_bind hvb hb hl hr hne hu ho ht
  · simp [Sub.bind, hE.len]
  · simp [Sub.bind]; exact hE.few
  · unfold Sub.bind at ht
    rw [List.getElem?_map] at ht
    obtain ⟨t0, h0, rfl⟩ := Option.map_eq_some_iff.1 ht
    exact te_bind hvb hb hl hr hne hu ho (hE.at_ i c t0 hc h0)
  · have := (k0_bind (r := r) hb hl).block _ _ hE.cnt (by simp) fun _ _ _ => varsO_ne
    simpa [Sub.bind] using this

/-! ### A fresh variable -/
theorem fnd_alloc [Inhabited Low] {w : World} (o : Obj) {v r : Value} (h : Fnd w v r) : Fnd (w.alloc o) v r := by
  induction h with
  | root hv hb hl => exact .root hv (block_alloc_old hb) hl
  | con hv => exact .con hv
  | step hv hb hu hl _ ih => exact .step hv (block_alloc_old hb) hu hl ih
theorem kv_alloc [Inhabited Low] (w : World) (o : Obj) : KV [] w (w.alloc o) := ((Keeps.refl [] w).alloc o).kv0
/-- The count is raised, a variable is made. -/
theorem new_step [Inhabited Low] [Inhabited Bar] {ab : Nat} {vb : List Nat} {S : Sub} {w : World} (hE : Eng ab vb S w) (hfew : S.length < 100000) {w1 w2 : World} (hw1 : w1 = w.setCell ⟨ab, 0, none⟩ (.int .i64 ((S.length + 1 : Nat) : Int)))
    (hw2 : w2 = w1.alloc (varO ((S.length + 1 : Nat) : Int) .nilIface ⟨#[]⟩)) :
    Stp [ab] vb S w (vb ++ [w.heap.size]) (S ++ [.var (S.length + 1)]) w2 ∧ Eng ab (vb ++ [w.heap.size]) (S ++ [.var (S.length + 1)]) w2 ∧ TyE (vb ++ [w.heap.size]) w2 (.var (S.length + 1)) (vV w.heap.size) := by
  have hlo := hE.lo
  have hk1 : KV [ab] w w1 := by
    subst hw1
    refine ((Keeps.refl [ab] w).setCell (.inl (by simp)) _).kv ?_
    intro m hm o ho
    simp only [List.mem_singleton] at hm
    subst hm
    rw [hE.cnt] at ho
    cases ho
    intro cs T z e
    cases e
    exact ⟨by decide, by decide, by decide⟩
  have hs : w1.heap.size = w.heap.size := by subst hw1; simp [World.setCell]
  have hk2 : KV [ab] w w2 := hk1.trans0 (by subst hw2; exact kv_alloc w1 _)
  have hb : w2.heap[w.heap.size]? = some (varO ((S.length + 1 : Nat) : Int) .nilIface ⟨#[]⟩) := by subst hw2; rw [← hs]; exact block_alloc w1 _
  have hself : TyE (vb ++ [w.heap.size]) w2 (.var (S.length + 1)) (vV w.heap.size) := ⟨w.heap.size, ⟨#[]⟩, by omega, by simp [hE.len], .root rfl hb hlo, hb⟩
  have hap : ∀ (t : Ty) (v : Value), TyE vb w (t.ap S) v → TyE (vb ++ [w.heap.size]) w2 (t.ap (S ++ [.var (S.length + 1)])) v := by
    intro t v ht
    by_cases h0 : S = []
    · subst h0
      have hv : vb = [] := List.length_eq_zero_iff.1 hE.len
      subst hv
      have : ∀ (t : Ty) (v : Value), TyE [] w (t.ap []) v → t.ap ([] ++ [Ty.var (0 + 1)]) = t.ap [] := by
        intro t
        induction t with
        | var n =>
          rintro v ⟨b, nm, h1, h2, _⟩
          simp at h2
        | int => intro v _; rfl
        | bool => intro v _; rfl
        | list a ih => rintro v ⟨c, sv, va, _, _, _, h⟩; simp only [Ty.ap]; rw [ih _ h]
        | pair a b iha ihb => rintro v ⟨c, sv, va, vc, _, _, _, h, h'⟩; simp only [Ty.ap]; rw [iha _ h, ihb _ h']
        | arr a b iha ihb => rintro v ⟨c, sv, va, vc, _, _, _, h, h'⟩; simp only [Ty.ap]; rw [iha _ h, ihb _ h']
      have e := this t v ht
      simp only [List.length_nil] at *
      rw [e]
      exact (hk2.te ht).more
    · rw [ap_push S t h0]
      exact (hk2.te ht).more
  refine ⟨⟨hk2.k0, ⟨_, rfl⟩, hap⟩, ⟨by simp [hE.len], by simp; omega, Nat.le_trans hlo hk2.size, fun x hx => Nat.lt_of_lt_of_le (hE.bar x hx) hk2.size, fun i b t hi ht => ?_, ?_, ?_⟩, hself⟩
  · rcases Nat.lt_or_ge i S.length with h | h
    · rw [List.getElem?_append_left (by rw [hE.len]; exact h)] at hi
      rw [List.getElem?_append_left h] at ht
      exact (hk2.te (hE.at_ i b t hi ht)).more
    · have hi' : i = S.length := by
        have := (List.getElem?_eq_some_iff.1 ht).1
        simp at this; omega
      subst hi'
      rw [← hE.len] at hi
      simp at hi ht
      subst hi; subst ht
      exact hself
  · intro i t ht
    rcases Nat.lt_or_ge i S.length with h | h
    · rw [List.getElem?_append_left h] at ht
      rw [ap_push S t (by intro e; subst e; simp at h)]
      exact hE.fix i t ht
    · have hi' : i = S.length := by
        have := (List.getElem?_eq_some_iff.1 ht).1
        simp at this; omega
      subst hi'
      simp at ht
      subst ht
      simp [Ty.ap, Sub.look]
  · have h1 : w1.heap[ab]? = some (.cells #[.int .i64 ((S.length + 1 : Nat) : Int)] 113) := by subst hw1; simpa using block_setCell hE.cnt 0 _
    subst hw2
    rw [List.length_append, List.length_singleton]
    exact block_alloc_old h1
end Go.Proofs.YtpbplpnifjbkoabGreatDoor

namespace Go.Proofs.YtpbplpnifjbkoabGreatDoor
open Go.RowKit

theorem swVarVar (v : Value) (xT : TypeId) (w : World) : (Instr.typeAssert (.iface 178 v) xT 178 true).run Tryz.prog w = .ok (.tuple #[v, .bool true]) w := by kernel_rfl
theorem swVarCon (v : Value) (xT : TypeId) (w : World) : (Instr.typeAssert (.iface 183 v) xT 178 true).run Tryz.prog w = .ok (.tuple #[.pointer none, .bool false]) w := by kernel_rfl
theorem swConCon (v : Value) (xT : TypeId) (w : World) : (Instr.typeAssert (.iface 183 v) xT 183 true).run Tryz.prog w = .ok (.tuple #[v, .bool true]) w := by kernel_rfl
theorem swConVar (v : Value) (xT : TypeId) (w : World) : (Instr.typeAssert (.iface 178 v) xT 183 true).run Tryz.prog w = .ok (.tuple #[.pointer none, .bool false]) w := by kernel_rfl
theorem toCon (v : Value) (xT : TypeId) (w : World) : (Instr.typeAssert (.iface 183 v) xT 183 false).run Tryz.prog w = .ok v w := by kernel_rfl

theorem hasB_kids {t : Ty} (h : isVarT t = false) (x : Nat) : t.hasB x = (kidsT t).any (Ty.hasB x) := by
  cases t <;> simp [kidsT, Ty.hasB, isVarT] at h ⊢

set_option maxRecDepth 100000 in
set_option maxHeartbeats 4000000 in
theorem occurs_any [Inhabited Low] (n : Nat) : ∀ (t : Ty), t.size ≤ n → ∀ (Q : Nat → ByteArray → Prop) (w : World) (v : Value) (x b : Nat) (u : Value) (nm : ByteArray), w.heap[b]? = some (varO x u nm) → TyV Q w t v →
    Calls Tryz.prog 183 #[.pointer (some ⟨b, 0, none⟩), v] w fun e w' => e = .returned (.bool (t.hasB x)) ∧ KV [] w w' := by
  induction n with
  | zero => intro t h; have := t.size_pos; omega
  | succ n ih =>
    intro t ht Q w v x b u nm hb hv
    obtain ⟨r, hf⟩ := hv.fnd
    have HB := Lib.hid hb
    have HV := Lib.hid hv
    have HF := Lib.hid hf
    have HIH := Lib.hid ih
    have hsh := hv.shape
    clear hv hf ih hb
    rcases hsh with ⟨vb, rfl⟩ | ⟨vc, rfl⟩
    all_goals
      go_enter Tryz.func183, Tryz.ntmps183
      go_wp2_with fail
      first | refine (find_var HF.out).mono ?_ | refine (find_con HF.out).mono ?_
      rintro e w1 ⟨rfl, hk⟩
      have hv1 := hk.ty HV.out
      have hr1 := hv1.res (hk.fnd _ _ HF.out)
      obtain ⟨u1, hb1, _⟩ := hk.var _ _ _ _ HB.out
      have HK := Lib.hid hk
      have HB1 := Lib.hid hb1
      clear hk hv1 HV HF hb1
      by_cases hvar : isVarT t = true
      · obtain ⟨vn, rfl⟩ : ∃ vn, t = .var vn := by cases t <;> first | exact ⟨_, rfl⟩ | simp [isVarT] at hvar
        obtain ⟨b2, nm2, rfl, hb2, _⟩ := hr1
        have hta := swVarVar (.pointer (some ⟨b2, 0, none⟩)) 116 w1
        have c2 : w1.cell? ⟨b2, 0, none⟩ = some (.int .i64 vn) := cell_of_block hb2 0
        have c1 : w1.cell? ⟨b, 0, none⟩ = some (.int .i64 x) := cell_of_block HB1.out 0
        clear hvar hb2
        by_cases hx : vn = x
        · subst hx
          go_wp2
          go_region
          all_goals
            go_wp2
            go_ret
            exact ⟨by simp [Ty.hasB], HK.out.trans0 (Keeps.refl [] w1).drew.kv0⟩
        · have hb : ((vn : Int) == (x : Int)) = false := by simp; omega
          go_wp2
          go_region
          all_goals
            go_wp2
            go_ret
            refine ⟨?_, HK.out.trans0 (Keeps.refl [] w1).drew.kv0⟩
            simp only [Ty.hasB]
            rw [show (x == vn) = false by simp; omega]
            rfl
      · obtain ⟨c, ad, cap, vs, rfl, hc, hrow, hkids⟩ := hr1.kids (eq_false_of_ne_true hvar)
        have HHK := Lib.hid (hasB_kids (eq_false_of_ne_true hvar) x)
        have hta := swVarCon (.pointer (some ⟨c, 0, none⟩)) 116 w1
        have hta2 := swConCon (.pointer (some ⟨c, 0, none⟩)) 116 w1
        have c1 : w1.cell? ⟨c, 1, none⟩ = some (.slice ad vs.length cap) := cell_of_block hc 1
        have hfew := kids_few t
        have hlen : vs.length ≤ 2 := by rw [hkids.1]; exact hfew
        have HR := Lib.hid hrow
        have HKD := Lib.hid hkids
        have HL := Lib.hid hkids.1
        clear hvar hr1 hc hrow hkids hfew
        go_wp2_with fail
        go_loopg [31] vs.length (fun gg i wx => ∃ j : Nat, gg = vs.length - j ∧ i = .int .i64 j ∧ j ≤ vs.length ∧ (∀ k ∈ (kidsT t).take j, Ty.hasB x k = false) ∧ KV [] w1 wx)
        case atStart => exact ⟨0, rfl, rfl, by omega, by simp, KV.refl _ _⟩
        case round =>
          obtain ⟨j, hg, rfl, hj, hno, hk⟩ := hrel
          have HG := Lib.hid hg
          have HNO := Lib.hid hno
          have HK2 := Lib.hid hk
          clear hg hk hno
          by_cases hlt : j < vs.length
          · have hjk : j < (kidsT t).length := by rw [← HL.out]; exact hlt
            obtain ⟨a, ha⟩ : ∃ a, (kidsT t)[j]? = some a := ⟨_, List.getElem?_eq_getElem hjk⟩
            obtain ⟨va, hva⟩ : ∃ va, vs[j]? = some va := ⟨_, List.getElem?_eq_getElem hlt⟩
            have hta2 := HK2.out.ty (HKD.out.2 j a va ha hva)
            obtain ⟨g, rfl, hcell⟩ := (HK2.out.rowC HR.out).cell hva
            obtain ⟨u2, hb2, _⟩ := HK2.out.var _ _ _ _ HB1.out
            have HB2 := Lib.hid hb2
            have hlt' := kids_lt (List.mem_of_getElem? ha)
            have HTK := Lib.hid (take_next' ha)
            have HTY := Lib.hid hta2
            have HMA := Lib.hid (List.mem_of_getElem? ha)
            have hdl : decide ((j : Int) < (vs.length : Int)) = true := by simpa using hlt
            obtain ⟨vt, vp, rfl⟩ : ∃ vt vp, va = .iface vt vp := by rcases hta2.shape with ⟨_, rfl⟩ | ⟨_, rfl⟩ <;> exact ⟨_, _, rfl⟩
            clear hta2 ha hva hjk hb2
            go_wp2_with fail
            refine (HIH.out a (by omega) Q _ _ x b _ nm HB2.out HTY.out).mono ?_
            rintro e w2 ⟨rfl, hk⟩
            have HK3 := Lib.hid (HK2.out.trans0 hk)
            clear hk
            by_cases hax : a.hasB x = true
            · rw [hax]
              go_wp2
              go_ret
              refine ⟨?_, HK.out.trans0 HK3.out⟩
              rw [HHK.out, List.any_eq_true.2 ⟨a, HMA.out, hax⟩]
              rfl
            · have hax' : a.hasB x = false := eq_false_of_ne_true hax
              rw [hax']
              go_wp2_with fail
              go_roundg (vs.length - (j + 1))
              case measure => have := HG.out; omega
              case rel =>
                refine ⟨j + 1, rfl, by go_num, by omega, ?_, HK3.out⟩
                rw [HTK.out]
                intro k hk
                rcases List.mem_append.1 hk with hk | hk
                · exact HNO.out k hk
                · simp at hk; subst hk; exact hax'
          · have hdl : decide ((j : Int) < (vs.length : Int)) = false := by simpa using hlt
            have hjl : (kidsT t).take j = kidsT t := List.take_of_length_le (by rw [← HL.out]; omega)
            have hno2 : (kidsT t).any (Ty.hasB x) = false := by
              rw [List.any_eq_false]
              intro k hk
              have := HNO.out k (by rw [hjl]; exact hk)
              simp [this]
            have HN2 := Lib.hid hno2
            clear hjl hno2
            go_wp2
            go_ret
            refine ⟨?_, HK.out.trans0 HK2.out⟩
            rw [HHK.out, HN2.out]
            rfl
end Go.Proofs.YtpbplpnifjbkoabGreatDoor

namespace Go.Proofs.YtpbplpnifjbkoabGreatDoor
open Go.RowKit

/-! ### The plain half -/
def unK (f : Nat) : Sub → List Ty → List Ty → Option (Option Sub)
  | S, a :: ar, b :: br => match unF f S a b with
    | none => none
    | some none => some none
    | some (some S) => unK f S ar br
  | S, _, _ => some (some S)
theorem unK_one (f : Nat) (S : Sub) (a b : Ty) : unK f S [a] [b] = unF f S a b := by
  simp only [unK]
  cases unF f S a b with
  | none => rfl
  | some r => cases r <;> rfl
theorem unK_two (f : Nat) (S : Sub) (a b c d : Ty) : unK f S [a, c] [b, d] = (unF f S a b).bind fun r => match r with | some S => unF f S c d | none => some none := by
  simp only [unK]
  cases unF f S a b with
  | none => rfl
  | some r =>
    cases r with
    | none => rfl
    | some S' =>
      simp only [Option.bind_some]
      cases unF f S' c d with
      | none => rfl
      | some r => cases r <;> rfl
def bindP (S : Sub) (x : Nat) (b : Ty) : Option Sub := if b = .var x then some S else if b.hasB x then none else some (Sub.bind S x b)
theorem unF_var {f : Nat} {S : Sub} {ta tb : Ty} {x : Nat} (h : ta.ap S = .var x) : unF (f + 1) S ta tb = some (bindP S x (tb.ap S)) := by
  unfold unF bindP
  rw [h]
  generalize tb.ap S = b
  cases b <;> simp only [reduceCtorEq, if_false] <;> (repeat' split) <;> simp_all
theorem unF_var2 {f : Nat} {S : Sub} {ta tb : Ty} {y : Nat} (h : isVarT (ta.ap S) = false) (h2 : tb.ap S = .var y) : unF (f + 1) S ta tb = some (bindP S y (ta.ap S)) := by
  unfold unF bindP
  rw [h2]
  generalize ta.ap S = a at h
  cases a <;> simp only [isVarT, reduceCtorEq] at h ⊢ <;> simp only [if_false] <;> split <;> simp_all
theorem unF_con {f : Nat} {S : Sub} {ta tb : Ty} (h : isVarT (ta.ap S) = false) (h2 : isVarT (tb.ap S) = false) (hk : kindT (ta.ap S) = kindT (tb.ap S)) : unF (f + 1) S ta tb = unK f S (kidsT (ta.ap S)) (kidsT (tb.ap S)) := by
  unfold unF
  generalize ta.ap S = a at h hk ⊢
  generalize tb.ap S = b at h2 hk ⊢
  cases a <;> cases b <;> simp only [isVarT, Bool.true_eq_false] at h h2 <;> first | rfl | (rw [kidsT, kidsT, unK_one]; done) | (rw [kidsT, kidsT, unK_two]; rfl) | exact absurd hk (by simp only [kindT]; decide)
theorem unF_no {f : Nat} {S : Sub} {ta tb : Ty} (h : isVarT (ta.ap S) = false) (h2 : isVarT (tb.ap S) = false) (hk : kindT (ta.ap S) ≠ kindT (tb.ap S)) : unF (f + 1) S ta tb = some none := by
  unfold unF
  generalize ta.ap S = a at h hk ⊢
  generalize tb.ap S = b at h2 hk ⊢
  cases a <;> cases b <;> simp only [isVarT, Bool.true_eq_false] at h h2 <;> first | rfl | exact absurd rfl hk
theorem kids_ap {S : Sub} {t : Ty} (h : t.ap S = t) {k : Ty} (hk : k ∈ kidsT t) : k.ap S = k := by
  cases t <;> simp only [kidsT, List.mem_cons, List.not_mem_nil, or_false, Ty.ap, Ty.list.injEq, Ty.pair.injEq, Ty.arr.injEq] at h hk
  · subst hk; exact h
  · rcases hk with rfl | rfl
    · exact h.1
    · exact h.2
  · rcases hk with rfl | rfl
    · exact h.1
    · exact h.2

def KidsE [Inhabited Low] [Inhabited Bar] (vb : List Nat) (w : World) (ts : List Ty) (vs : List Value) : Prop := vs.length = ts.length ∧ ∀ (j : Nat) t v, ts[j]? = some t → vs[j]? = some v → TyE vb w t v
theorem KidsE.nil [Inhabited Low] [Inhabited Bar] {vb : List Nat} {w : World} : KidsE vb w [] [] := ⟨rfl, fun j t v h => by simp at h⟩
theorem KidsE.one [Inhabited Low] [Inhabited Bar] {vb : List Nat} {w : World} {a : Ty} {va : Value} (h : TyE vb w a va) : KidsE vb w [a] [va] := ⟨rfl, fun j t v h1 h2 => by
  cases j with
  | zero => simp at h1 h2; subst h1; subst h2; exact h
  | succ j => simp at h1⟩
theorem KidsE.two [Inhabited Low] [Inhabited Bar] {vb : List Nat} {w : World} {a b : Ty} {va vc : Value} (h : TyE vb w a va) (h' : TyE vb w b vc) : KidsE vb w [a, b] [va, vc] := ⟨rfl, fun j t v h1 h2 => by
  match j with
  | 0 => simp at h1 h2; subst h1; subst h2; exact h
  | 1 => simp at h1 h2; subst h1; subst h2; exact h'
  | j + 2 => simp at h1⟩
theorem ResE.kids [Inhabited Low] [Inhabited Bar] {vb : List Nat} {w : World} {t : Ty} {r : Value} (h : ResE vb w t r) (hv : isVarT t = false) :
    ∃ c ad cap vs, r = cV c ∧ w.heap[c]? = some (conO (kindT t) (.slice ad vs.length cap)) ∧ RowC w ad vs ∧ KidsE vb w (kidsT t) vs := by
  cases t with
  | var n => simp [isVarT] at hv
  | int => obtain ⟨c, h1, h2⟩ := h; exact ⟨c, none, 0, [], h1, h2.2, fun j v hj => by simp at hj, .nil⟩
  | bool => obtain ⟨c, h1, h2⟩ := h; exact ⟨c, none, 0, [], h1, h2.2, fun j v hj => by simp at hj, .nil⟩
  | list a => obtain ⟨c, sv, va, h1, h2, h3, h4⟩ := h; obtain ⟨ad, cap, rfl, hr⟩ := h3.v.c; exact ⟨c, ad, cap, _, h1, h2.2, hr, .one h4⟩
  | pair a b => obtain ⟨c, sv, va, vc, h1, h2, h3, h4, h5⟩ := h; obtain ⟨ad, cap, rfl, hr⟩ := h3.v.c; exact ⟨c, ad, cap, _, h1, h2.2, hr, .two h4 h5⟩
  | arr a b => obtain ⟨c, sv, va, vc, h1, h2, h3, h4, h5⟩ := h; obtain ⟨ad, cap, rfl, hr⟩ := h3.v.c; exact ⟨c, ad, cap, _, h1, h2.2, hr, .two h4 h5⟩

/-! ### The walks -/
theorem TyE.varS [Inhabited Low] [Inhabited Bar] {vb : List Nat} {w : World} {x : Nat} {v : Value} (h : TyE vb w (.var x) v) : ∃ b, v = vV b := by
  obtain ⟨b, nm, _, _, hf, _⟩ := h
  rcases hf.start with ⟨b', h⟩ | ⟨c, _, h⟩
  · exact ⟨b', h⟩
  · exact (vV_cV h).elim
def UPost [Inhabited Low] [Inhabited Bar] (ab : Nat) (vb : List Nat) (S : Sub) (w : World) (r : Option Sub) (e : Ending) (w' : World) : Prop := match r with
  | some S' => e = .returned (.bool true) ∧ Stp [] vb S w vb S' w' ∧ Eng ab vb S' w'
  | none => e = .returned (.bool false) ∧ K0 [] w w'
theorem UPost.behind [Inhabited Low] [Inhabited Bar] {ab : Nat} {vb : List Nat} {S : Sub} {w w1 : World} {r : Option Sub} {e : Ending} {w' : World} (hk : KV [] w w1) (h : UPost ab vb S w1 r e w') : UPost ab vb S w r e w' := by
  cases r with
  | none => exact ⟨h.1, hk.k0.transM h.2⟩
  | some S' => exact ⟨h.1, (hk.stp vb S).trans h.2.1, h.2.2⟩

set_option maxRecDepth 100000 in
set_option maxHeartbeats 4000000 in
theorem unify_var [Inhabited Low] [Inhabited Bar] {ab : Nat} {vb : List Nat} {S : Sub} {w : World} {va vc : Value} {x : Nat} {t : Ty} (hE : Eng ab vb S w) (ha : TyE vb w (.var x) va) (hc : TyE vb w t vc) (hfx : t.ap S = t) :
    Calls Tryz.prog 168 #[va, vc] w (UPost ab vb S w (bindP S x t)) := by
  obtain ⟨ra, hfa⟩ := ha.fnd
  obtain ⟨rc, hfc⟩ := hc.fnd
  have HE := Lib.hid hE
  have HA := Lib.hid ha
  have HC := Lib.hid hc
  have HFX := Lib.hid hfx
  have HFA := Lib.hid hfa
  have HFC := Lib.hid hfc
  obtain ⟨v1, rfl⟩ := ha.varS
  have hsc := hc.shape
  clear hE ha hc hfa hfc hfx
  rcases hsc with ⟨v2, rfl⟩ | ⟨v2, rfl⟩
  all_goals
    go_enter Tryz.func168, Tryz.ntmps168
    go_wp2_with fail
    refine (find_var HFA.out).mono ?_
    rintro e w1 ⟨rfl, hk⟩
    have HK1 := Lib.hid hk
    have HFC1 := Lib.hid (hk.fnd _ _ HFC.out)
    clear hk
    go_wp2_with fail
    first | refine (find_var HFC1.out).mono ?_ | refine (find_con HFC1.out).mono ?_
    rintro e w2 ⟨rfl, hk⟩
    have hkk := HK1.out.trans0 hk
    have HK2 := Lib.hid hkk
    have hE2 := HE.out.kv hkk (by simp)
    have hA2 := (hkk.te HA.out).res (hkk.fnd _ _ HFA.out)
    have hC2 := (hkk.te HC.out).res (hkk.fnd _ _ HFC.out)
    have HC3 := Lib.hid ((hkk.te HC.out).root (hkk.fnd _ _ HFC.out))
    have HF3 := Lib.hid (hkk.fnd _ _ HFC.out).self
    have HE2 := Lib.hid hE2
    obtain ⟨b, nm, hx1, hvb, rfl, hlo, hb⟩ := hA2
    have hta := swVarVar (.pointer (some ⟨b, 0, none⟩)) 116 w2
    have HB := Lib.hid hb
    have HVB := Lib.hid hvb
    have c0 : w2.cell? ⟨b, 0, none⟩ = some (.int .i64 x) := cell_of_block hb 0
    clear hk hkk hE2 hb hvb HA HC HFA HFC HE HK1 HFC1
    by_cases hvar : isVarT t = true
    · obtain ⟨n, rfl⟩ : ∃ n, t = .var n := by cases t <;> first | exact ⟨_, rfl⟩ | simp [isVarT] at hvar
      clear hvar
      obtain ⟨b2, nm2, _, hvb2, rfl, hlo2, hb2⟩ := hC2
      have hta2 := swVarVar (.pointer (some ⟨b2, 0, none⟩)) 116 w2
      have d0 : w2.cell? ⟨b2, 0, none⟩ = some (.int .i64 n) := cell_of_block hb2 0
      by_cases hn : x = n
      · subst hn
        clear hb2 hvb2
        go_wp2_with fail
        go_region
        all_goals
          go_wp2
          go_ret
          have hbp : bindP S x (.var x) = some S := by unfold bindP; rw [if_pos rfl]
          rw [hbp]
          have hkd := HK2.out.trans0 (Keeps.refl [] w2).drew.kv0
          exact ⟨rfl, hkd.stp vb S, HE2.out.kv (Keeps.refl [] w2).drew.kv0 (by simp)⟩
      · have hne : ((x : Int) == (n : Int)) = false := by simp; omega
        have HNV := Lib.hid (show ¬ Ty.var n = .var x from fun e => hn (by cases e; rfl))
        have HKD := Lib.hid (Keeps.refl [] w2).drew.kv0
        clear hb2 hvb2
        go_wp2_with fail
        go_region
        all_goals
          go_wp2_with fail
          refine (occurs_any _ (.var n) (Nat.le_refl _) _ _ _ x b _ nm (HKD.out.root HB.out) (HKD.out.te HC3.out).tv).mono ?_
          rintro e w3 ⟨rfl, hk⟩
          have hk3 := HKD.out.trans0 hk
          have hb3 := hk3.root HB.out
          have HB3 := Lib.hid hb3
          have q1 : w3.cell? ⟨b, 1, none⟩ = some .nilIface := cell_of_block hb3 1
          have f1 := free_of_block hb3 1
          have HK3 := Lib.hid hk3
          clear hk hk3 hb3
          by_cases hocc : Ty.hasB x (.var n) = true
          · rw [hocc]
            have hbp : bindP S x (.var n) = none := by unfold bindP; rw [if_neg HNV.out, if_pos hocc]
            have HBP := Lib.hid hbp
            clear hbp
            go_wp2
            go_ret
            rw [HBP.out]
            exact ⟨rfl, (HK2.out.trans0 HK3.out).k0⟩
          · have hoc : Ty.hasB x (.var n) = false := eq_false_of_ne_true hocc
            rw [hoc]
            have hbp : bindP S x (.var n) = some (Sub.bind S x (.var n)) := by unfold bindP; rw [if_neg HNV.out, if_neg hocc]
            have HBP := Lib.hid hbp
            clear hbp
            go_wp2_with fail
            go_ret
            rw [HBP.out]
            have hst := bind_step (HE2.out.kv HK3.out (by simp)) hx1 HVB.out HB3.out hlo (HK3.out.fnd _ _ HF3.out) (HK3.out.te HC3.out) HFX.out hoc
            exact ⟨rfl, ((HK2.out.trans0 HK3.out).stp vb S).trans hst.1, hst.2⟩
    · obtain ⟨c, ad, cap, vs, rfl, hcb, hrow, hkids⟩ := hC2.kids (eq_false_of_ne_true hvar)
      have hta2 := swVarCon (.pointer (some ⟨c, 0, none⟩)) 116 w2
      have HNV := Lib.hid (show ¬ t = .var x from fun e => by subst e; exact hvar rfl)
      have HKD := Lib.hid (Keeps.refl [] w2).drew.kv0
      clear hcb hrow hkids hC2 hvar
      go_wp2_with fail
      go_region
      all_goals
        go_wp2_with fail
        refine (occurs_any _ t (Nat.le_refl _) _ _ _ x b _ nm (HKD.out.root HB.out) (HKD.out.te HC3.out).tv).mono ?_
        rintro e w3 ⟨rfl, hk⟩
        have hk3 := HKD.out.trans0 hk
        have hb3 := hk3.root HB.out
        have HB3 := Lib.hid hb3
        have q1 : w3.cell? ⟨b, 1, none⟩ = some .nilIface := cell_of_block hb3 1
        have f1 := free_of_block hb3 1
        have HK3 := Lib.hid hk3
        clear hk hk3 hb3
        by_cases hocc : Ty.hasB x t = true
        · rw [hocc]
          have hbp : bindP S x t = none := by unfold bindP; rw [if_neg HNV.out, if_pos hocc]
          have HBP := Lib.hid hbp
          clear hbp
          go_wp2
          go_ret
          rw [HBP.out]
          exact ⟨rfl, (HK2.out.trans0 HK3.out).k0⟩
        · have hoc : Ty.hasB x t = false := eq_false_of_ne_true hocc
          rw [hoc]
          have hbp : bindP S x t = some (Sub.bind S x t) := by unfold bindP; rw [if_neg HNV.out, if_neg hocc]
          have HBP := Lib.hid hbp
          clear hbp
          go_wp2_with fail
          go_ret
          rw [HBP.out]
          have hst := bind_step (HE2.out.kv HK3.out (by simp)) hx1 HVB.out HB3.out hlo (HK3.out.fnd _ _ HF3.out) (HK3.out.te HC3.out) HFX.out hoc
          exact ⟨rfl, ((HK2.out.trans0 HK3.out).stp vb S).trans hst.1, hst.2⟩
end Go.Proofs.YtpbplpnifjbkoabGreatDoor

namespace Go.Proofs.YtpbplpnifjbkoabGreatDoor
open Go.RowKit

def UnIH [Inhabited Low] [Inhabited Bar] (ab f : Nat) : Prop := ∀ (S : Sub) (ta tb : Ty) (r : Option Sub), unF f S ta tb = some r → ∀ (vb : List Nat) (w : World) (va vc : Value), Eng ab vb S w → TyE vb w (ta.ap S) va → TyE vb w (tb.ap S) vc →
  Calls Tryz.prog 168 #[va, vc] w (UPost ab vb S w r)
theorem kind_len {a b : Ty} (h : kindT a = kindT b) (ha : isVarT a = false) (hb : isVarT b = false) : (kidsT a).length = (kidsT b).length := by
  cases a <;> cases b <;> simp only [isVarT, Bool.true_eq_false] at ha hb <;> first | rfl | exact absurd h (by simp only [kindT]; decide)
theorem cV_inj {a b : Nat} (h : cV a = cV b) : a = b := by simpa using h
theorem drop_at {α : Type} {l : List α} {j : Nat} {a : α} (h : l[j]? = some a) : l.drop j = a :: l.drop (j + 1) := by
  obtain ⟨h', rfl⟩ := List.getElem?_eq_some_iff.1 h
  exact List.drop_eq_getElem_cons h'
theorem unK_nil (f : Nat) (S : Sub) : unK f S [] [] = some (some S) := rfl
theorem unK_cons (f : Nat) (S : Sub) (a b : Ty) (ar br : List Ty) : unK f S (a :: ar) (b :: br) = match unF f S a b with | none => none | some none => some none | some (some S) => unK f S ar br := rfl

set_option maxRecDepth 100000 in
set_option maxHeartbeats 4000000 in
theorem same_any [Inhabited Low] [Inhabited Bar] {ab f : Nat} (ih : UnIH ab f) {vb : List Nat} {S : Sub} {w : World} {ta tb : Ty} {c1 c2 : Nat} (hE : Eng ab vb S w) (ha : ResE vb w ta (cV c1)) (hb : ResE vb w tb (cV c2)) (hva : isVarT ta = false) (hvb : isVarT tb = false) (hfa : ta.ap S = ta) (hfb : tb.ap S = tb)
    (r : Option Sub) (hr : (kindT ta = kindT tb ∧ unK f S (kidsT ta) (kidsT tb) = some r) ∨ (kindT ta ≠ kindT tb ∧ r = none)) :
    Calls Tryz.prog 182 #[.pointer (some ⟨c1, 0, none⟩), .pointer (some ⟨c2, 0, none⟩)] w (UPost ab vb S w r) := by
  obtain ⟨c, ad1, cap1, vs1, e1, hc1, hrow1, hkids1⟩ := ha.kids hva
  obtain rfl := cV_inj e1
  obtain ⟨c, ad2, cap2, vs2, e2, hc2, hrow2, hkids2⟩ := hb.kids hvb
  obtain rfl := cV_inj e2
  have k1 : w.cell? ⟨c1, 0, none⟩ = some (.string (bs (kindT ta))) := cell_of_block hc1 0
  have k2 : w.cell? ⟨c2, 0, none⟩ = some (.string (bs (kindT tb))) := cell_of_block hc2 0
  have k3 : w.cell? ⟨c1, 1, none⟩ = some (.slice ad1 vs1.length cap1) := cell_of_block hc1 1
  have HE := Lib.hid hE
  have HC1 := Lib.hid hc1
  have HC2 := Lib.hid hc2
  have HR1 := Lib.hid hrow1
  have HR2 := Lib.hid hrow2
  have HKD1 := Lib.hid hkids1
  have HKD2 := Lib.hid hkids2
  have HIH := Lib.hid ih
  have HFA := Lib.hid hfa
  have HFB := Lib.hid hfb
  have hfew := kids_few ta
  have hl1 : vs1.length = (kidsT ta).length := hkids1.1
  have hlen : vs1.length ≤ 2 := by rw [hl1]; exact hfew
  have HL1 := Lib.hid hl1
  have HL2 := Lib.hid hkids2.1
  clear hl1 hE ha hb hc1 hc2 hrow1 hrow2 hkids1 hkids2 ih hfa hfb e1 e2 hfew
  rcases hr with ⟨hk, hr⟩ | ⟨hk, rfl⟩
  · have hd : ((bs (kindT ta)).toList == (bs (kindT tb)).toList) = true := by rw [hk]; exact beq_self_eq_true _
    have HK := Lib.hid hk
    have HUK := Lib.hid hr
    clear hk hr
    go_enter Tryz.func182, Tryz.ntmps182
    go_wp2_with fail
    go_region
    all_goals
      go_wp2_with fail
      go_loopg [20] vs1.length (fun gg i wx => ∃ (j : Nat) (Sj : Sub), gg = vs1.length - j ∧ i = .int .i64 j ∧ j ≤ vs1.length ∧ unK f Sj ((kidsT ta).drop j) ((kidsT tb).drop j) = some r ∧ Stp [] vb S w vb Sj wx ∧ Eng ab vb Sj wx)
      case atStart => exact ⟨0, S, rfl, rfl, by omega, HUK.out, (Keeps.refl [] w).drew.kv0.stp vb S, HE.out.kv (Keeps.refl [] w).drew.kv0 (by simp)⟩
      case round =>
        obtain ⟨j, Sj, hg, rfl, hj, huk, hst, hej⟩ := hrel
        have HG := Lib.hid hg
        have HUJ := Lib.hid huk
        have HST := Lib.hid hst
        have HEJ := Lib.hid hej
        have HLK := Lib.hid (kind_len HK.out hva hvb)
        have m1 : wr.cell? ⟨c1, 1, none⟩ = some (.slice ad1 vs1.length cap1) := cell_of_block (hst.k0.con _ _ _ _ HC1.out (.inl rfl)) 1
        have m2 : wr.cell? ⟨c2, 1, none⟩ = some (.slice ad2 vs2.length cap2) := cell_of_block (hst.k0.con _ _ _ _ HC2.out (.inl rfl)) 1
        clear hg huk hst hej k1 k2 k3 hd
        by_cases hlt : j < vs1.length
        · have hjk : j < (kidsT ta).length := by rw [← HL1.out]; exact hlt
          have hjk2 : j < (kidsT tb).length := by rw [← HLK.out]; exact hjk
          have hlt2 : j < vs2.length := by rw [HL2.out]; exact hjk2
          obtain ⟨a, ha⟩ : ∃ a, (kidsT ta)[j]? = some a := ⟨_, List.getElem?_eq_getElem hjk⟩
          obtain ⟨b, hb⟩ : ∃ b, (kidsT tb)[j]? = some b := ⟨_, List.getElem?_eq_getElem hjk2⟩
          obtain ⟨va, hxa⟩ : ∃ va, vs1[j]? = some va := ⟨_, List.getElem?_eq_getElem hlt⟩
          obtain ⟨vc, hxc⟩ : ∃ vc, vs2[j]? = some vc := ⟨_, List.getElem?_eq_getElem hlt2⟩
          have hta := HKD1.out.2 j a va ha hxa
          have htc := HKD2.out.2 j b vc hb hxc
          rw [← kids_ap HFA.out (List.mem_of_getElem? ha)] at hta
          rw [← kids_ap HFB.out (List.mem_of_getElem? hb)] at htc
          have hta' := HST.out.ty _ _ hta
          have htc' := HST.out.ty _ _ htc
          obtain ⟨g1, cs1, rfl, hg1, hgc1⟩ := (HST.out.k0.rowC HR1.out) j va hxa
          obtain ⟨g2, cs2, rfl, hg2, hgc2⟩ := (HST.out.k0.rowC HR2.out) j vc hxc
          have HX1 := Lib.hid (fun (W : World) (hW : K0 [] wr W) => (cell_of_block (hW.con _ _ _ _ hg1 (.inr rfl)) j).trans hgc1)
          have HX2 := Lib.hid (fun (W : World) (hW : K0 [] wr W) => (cell_of_block (hW.con _ _ _ _ hg2 (.inr rfl)) j).trans hgc2)
          have HM1 := Lib.hid (fun (W : World) (hW : K0 [] wr W) => cell_of_block (hW.con _ _ _ _ (HST.out.k0.con _ _ _ _ HC1.out (.inl rfl)) (.inl rfl)) 1)
          have HM2 := Lib.hid (fun (W : World) (hW : K0 [] wr W) => cell_of_block (hW.con _ _ _ _ (HST.out.k0.con _ _ _ _ HC2.out (.inl rfl)) (.inl rfl)) 1)
          have HKD := Lib.hid (Keeps.refl [] wr).drew.kv0
          have hdl : decide ((j : Int) < (vs1.length : Int)) = true := by simpa using hlt
          have hj1 : (j : Int) < (vs1.length : Int) := by omega
          have hj2 : (j : Int) < (vs2.length : Int) := by omega
          have HTA := Lib.hid hta'
          have HTC := Lib.hid htc'
          have HDA := Lib.hid (drop_at ha)
          have HDB := Lib.hid (drop_at hb)
          obtain ⟨t1, p1, rfl⟩ : ∃ vt vp, va = .iface vt vp := by rcases hta'.shape with ⟨_, rfl⟩ | ⟨_, rfl⟩ <;> exact ⟨_, _, rfl⟩
          obtain ⟨t2, p2, rfl⟩ : ∃ vt vp, vc = .iface vt vp := by rcases htc'.shape with ⟨_, rfl⟩ | ⟨_, rfl⟩ <;> exact ⟨_, _, rfl⟩
          have hstep := HUJ.out
          rw [HDA.out, HDB.out, unK_cons] at hstep
          clear hta htc hta' htc' hg1 hg2 hgc1 hgc2 ha hb hxa hxc hjk hjk2 hlt2 m1 m2
          cases hun : unF f Sj a b with
          | none => rw [hun] at hstep; cases hstep
          | some rr =>
            rw [hun] at hstep
            have HUN := Lib.hid hun
            have HSTEP := Lib.hid hstep
            clear hun hstep
            cases rr with
            | none =>
              go_wp2_with fail
              go_region_held3 (fun W => W.cell? ⟨c1, 1, none⟩ = some (.slice (some ⟨g1, 0, none⟩) vs1.length cap1) ∧ W.cell? ⟨c2, 1, none⟩ = some (.slice (some ⟨g2, 0, none⟩) vs2.length cap2) ∧ W.cell? ⟨g1, j, none⟩ = some (.iface t1 p1) ∧ W.cell? ⟨g2, j, none⟩ = some (.iface t2 p2) ∧ K0 [] wr W)
                (first | exact ⟨HM1.out _ HKD.out.k0, HM2.out _ HKD.out.k0, HX1.out _ HKD.out.k0, HX2.out _ HKD.out.k0, HKD.out.k0⟩ | exact ⟨HM1.out _ hkb, HM2.out _ hkb, HX1.out _ hkb, HX2.out _ hkb, hkb⟩)
                (first | (go_at_call 168; refine (HIH.out Sj a b _ HUN.out vb _ _ _ (HEJ.out.kv HKD.out (by simp)) (HKD.out.te HTA.out) (HKD.out.te HTC.out)).mono ?_; rintro e Wb ⟨rfl, hzb⟩; have hkb : K0 [] wr Wb := HKD.out.k0.transM hzb; clear hzb))
              all_goals
                go_wp2_with fail
                go_ret
                have hr := HSTEP.out
                cases hr
                exact ⟨rfl, HST.out.k0.transM (by assumption)⟩
            | some S2 =>
              go_wp2_with fail
              go_region_held3 (fun W => W.cell? ⟨c1, 1, none⟩ = some (.slice (some ⟨g1, 0, none⟩) vs1.length cap1) ∧ W.cell? ⟨c2, 1, none⟩ = some (.slice (some ⟨g2, 0, none⟩) vs2.length cap2) ∧ W.cell? ⟨g1, j, none⟩ = some (.iface t1 p1) ∧ W.cell? ⟨g2, j, none⟩ = some (.iface t2 p2) ∧ K0 [] wr W)
                (first | exact ⟨HM1.out _ HKD.out.k0, HM2.out _ HKD.out.k0, HX1.out _ HKD.out.k0, HX2.out _ HKD.out.k0, HKD.out.k0⟩ | exact ⟨HM1.out _ hkb, HM2.out _ hkb, HX1.out _ hkb, HX2.out _ hkb, hkb⟩)
                (first | (go_at_call 168; refine (HIH.out Sj a b _ HUN.out vb _ _ _ (HEJ.out.kv HKD.out (by simp)) (HKD.out.te HTA.out) (HKD.out.te HTC.out)).mono ?_; rintro e Wb ⟨rfl, hzb, hze⟩; have HZB := Lib.hid ((HKD.out.stp vb Sj).trans hzb); have HZE := Lib.hid hze; have hkb : K0 [] wr Wb := HKD.out.k0.transM hzb.k0; clear hzb hze))
              all_goals
                go_wp2_with fail
                go_roundg (vs1.length - (j + 1))
                case measure => have := HG.out; omega
                case rel => exact ⟨j + 1, S2, rfl, by go_num, by omega, HSTEP.out, HST.out.trans HZB.out, HZE.out⟩
        · have hdl : decide ((j : Int) < (vs1.length : Int)) = false := by simpa using hlt
          have hjl : (kidsT ta).drop j = [] := List.drop_of_length_le (by rw [← HL1.out]; omega)
          have hjl2 : (kidsT tb).drop j = [] := List.drop_of_length_le (by rw [← HLK.out, ← HL1.out]; omega)
          have hr := HUJ.out
          rw [hjl, hjl2, unK_nil] at hr
          cases hr
          clear hjl hjl2
          go_wp2_with fail
          go_ret
          exact ⟨rfl, HST.out, HEJ.out⟩
  · have hd : ((bs (kindT ta)).toList == (bs (kindT tb)).toList) = false := by
      rw [ByteArray.toList_eq, ByteArray.toList_eq, bs_data, bs_data]
      exact beq_eq_false_iff_ne.2 hk
    clear hk
    go_enter Tryz.func182, Tryz.ntmps182
    go_wp2
    go_region
    all_goals
      go_wp2
      go_ret
      exact ⟨rfl, (Keeps.refl [] w).drew.kv0.k0⟩

set_option maxRecDepth 100000 in
set_option maxHeartbeats 4000000 in
theorem unify_any [Inhabited Low] [Inhabited Bar] (ab : Nat) : ∀ f, UnIH ab f := by
  intro f
  induction f with
  | zero => intro S ta tb r h; simp [unF] at h
  | succ f ih =>
    intro S ta tb r hun vb w va vc hE ha hc
    by_cases hva : isVarT (ta.ap S) = true
    · obtain ⟨x, hx⟩ : ∃ x, ta.ap S = .var x := by cases h : ta.ap S <;> first | exact ⟨_, rfl⟩ | (rw [h] at hva; simp [isVarT] at hva)
      rw [unF_var hx] at hun
      cases hun
      rw [hx] at ha
      exact unify_var hE ha hc (ap_fix hE.fix tb)
    · have hva' : isVarT (ta.ap S) = false := eq_false_of_ne_true hva
      obtain ⟨ra, hfa⟩ := ha.fnd
      obtain ⟨rc, hfc⟩ := hc.fnd
      have HE := Lib.hid hE
      have HA := Lib.hid ha
      have HC := Lib.hid hc
      have HFA := Lib.hid hfa
      have HFC := Lib.hid hfc
      have HUN := Lib.hid hun
      have HIH := Lib.hid ih
      have hsa := ha.shape
      have hsc := hc.shape
      clear hE ha hc hfa hfc hun ih
      rcases hsa with ⟨v1, rfl⟩ | ⟨v1, rfl⟩ <;> rcases hsc with ⟨v2, rfl⟩ | ⟨v2, rfl⟩
      all_goals
        go_enter Tryz.func168, Tryz.ntmps168
        go_wp2_with fail
        first | refine (find_var HFA.out).mono ?_ | refine (find_con HFA.out).mono ?_
        rintro e w1 ⟨rfl, hk⟩
        have HK1 := Lib.hid hk
        have HFC1 := Lib.hid (hk.fnd _ _ HFC.out)
        obtain ⟨c1, ad1, cap1, vs1, rfl, _, _, _⟩ := ((hk.te HA.out).res (hk.fnd _ _ HFA.out)).kids hva'
        clear hk
        go_wp2_with fail
        first | refine (find_var HFC1.out).mono ?_ | refine (find_con HFC1.out).mono ?_
        rintro e w2 ⟨rfl, hk⟩
        have hkk := HK1.out.trans0 hk
        have HK2 := Lib.hid hkk
        have HE2 := Lib.hid (HE.out.kv hkk (by simp))
        have HRA := Lib.hid ((hkk.te HA.out).res (hkk.fnd _ _ HFA.out))
        have HRC := Lib.hid ((hkk.te HC.out).res (hkk.fnd _ _ HFC.out))
        have HTA := Lib.hid ((hkk.te HA.out).root (hkk.fnd _ _ HFA.out))
        have HTC := Lib.hid ((hkk.te HC.out).root (hkk.fnd _ _ HFC.out))
        have hta := swVarCon (.pointer (some ⟨c1, 0, none⟩)) 116 w2
        have hta1 := toCon (.pointer (some ⟨c1, 0, none⟩)) 116
        clear hk hkk HA HC HFA HFC HE HK1 HFC1
        by_cases hvc : isVarT (tb.ap S) = true
        · obtain ⟨y, hy⟩ : ∃ y, tb.ap S = .var y := by cases h : tb.ap S <;> first | exact ⟨_, rfl⟩ | (rw [h] at hvc; simp [isVarT] at hvc)
          have hun := HUN.out
          rw [unF_var2 hva' hy] at hun
          have hrc := HRC.out
          rw [hy] at hrc
          obtain ⟨b2, nm2, _, _, rfl, _, _⟩ := hrc
          have htc := HTC.out
          rw [hy] at htc
          have hta2 := swVarVar (.pointer (some ⟨b2, 0, none⟩)) 116 w2
          have HCALL := Lib.hid (unify_var HE2.out htc HTA.out (ap_fix HE2.out.fix ta))
          clear htc hvc
          go_wp2_with fail
          refine HCALL.out.mono ?_
          intro e w3 hp
          cases hun
          have hp2 := UPost.behind HK2.out hp
          cases hbp : bindP S y (ta.ap S) with
          | none =>
            rw [hbp] at hp2
            obtain ⟨rfl, hk0⟩ := hp2
            go_wp2
            go_ret
            rw [hbp]
            exact ⟨rfl, hk0⟩
          | some S2 =>
            rw [hbp] at hp2
            obtain ⟨rfl, hst, he2⟩ := hp2
            go_wp2
            go_ret
            rw [hbp]
            exact ⟨rfl, hst, he2⟩
        · have hvc' : isVarT (tb.ap S) = false := eq_false_of_ne_true hvc
          obtain ⟨c2, ad2, cap2, vs2, rfl, _, _, _⟩ := HRC.out.kids hvc'
          have hta2 := swVarCon (.pointer (some ⟨c2, 0, none⟩)) 116 w2
          have hta3 := toCon (.pointer (some ⟨c2, 0, none⟩)) 116
          have HKD := Lib.hid (Keeps.refl [] w2).drew.kv0
          have hun := HUN.out
          clear hvc
          by_cases hkk : kindT (ta.ap S) = kindT (tb.ap S)
          · rw [unF_con hva' hvc' hkk] at hun
            have HUK := Lib.hid hun
            have HKK := Lib.hid hkk
            clear hun hkk
            cases r with
            | none =>
              go_wp2_with fail
              go_region_held3 (fun W => K0 [] w2 W)
                (first | exact HKD.out.k0 | exact hkb)
                (first | (go_at_call 182; refine (same_any HIH.out (HE2.out.kv HKD.out (by simp)) ((HKD.out.te HTA.out).res (HKD.out.fnd _ _ (.con rfl))) ((HKD.out.te HTC.out).res (HKD.out.fnd _ _ (.con rfl))) hva' hvc' (ap_fix HE2.out.fix ta) (ap_fix HE2.out.fix tb) _ (.inl ⟨HKK.out, HUK.out⟩)).mono ?_; rintro e Wb ⟨rfl, hzb⟩; have hkb : K0 [] w2 Wb := HKD.out.k0.transM hzb; clear hzb))
              all_goals
                go_wp2_with fail
                go_ret
                exact ⟨rfl, HK2.out.k0.transM (by assumption)⟩
            | some S2 =>
              go_wp2_with fail
              go_region_held3 (fun W => K0 [] w2 W)
                (first | exact HKD.out.k0 | exact hkb)
                (first | (go_at_call 182; refine (same_any HIH.out (HE2.out.kv HKD.out (by simp)) ((HKD.out.te HTA.out).res (HKD.out.fnd _ _ (.con rfl))) ((HKD.out.te HTC.out).res (HKD.out.fnd _ _ (.con rfl))) hva' hvc' (ap_fix HE2.out.fix ta) (ap_fix HE2.out.fix tb) _ (.inl ⟨HKK.out, HUK.out⟩)).mono ?_; rintro e Wb ⟨rfl, hzb, hze⟩; have HZB := Lib.hid ((HKD.out.stp vb S).trans hzb); have HZE := Lib.hid hze; have hkb : K0 [] w2 Wb := HKD.out.k0.transM hzb.k0; clear hzb hze))
              all_goals
                go_wp2_with fail
                go_ret
                exact ⟨rfl, (HK2.out.stp vb S).trans HZB.out, HZE.out⟩
          · rw [unF_no hva' hvc' hkk] at hun
            cases hun
            have HKK := Lib.hid hkk
            clear hkk
            go_wp2_with fail
            go_region_held3 (fun W => K0 [] w2 W)
              (first | exact HKD.out.k0 | exact hkb)
              (first | (go_at_call 182; refine (same_any HIH.out (HE2.out.kv HKD.out (by simp)) ((HKD.out.te HTA.out).res (HKD.out.fnd _ _ (.con rfl))) ((HKD.out.te HTC.out).res (HKD.out.fnd _ _ (.con rfl))) hva' hvc' (ap_fix HE2.out.fix ta) (ap_fix HE2.out.fix tb) _ (.inr ⟨HKK.out, rfl⟩)).mono ?_; rintro e Wb ⟨rfl, hzb⟩; have hkb : K0 [] w2 Wb := HKD.out.k0.transM hzb; clear hzb))
            all_goals
              go_wp2_with fail
              go_ret
              exact ⟨rfl, HK2.out.k0.transM (by assumption)⟩
end Go.Proofs.YtpbplpnifjbkoabGreatDoor

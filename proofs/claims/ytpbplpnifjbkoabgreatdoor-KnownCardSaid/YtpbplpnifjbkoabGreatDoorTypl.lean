/-
  The plain model of types: parser, size, the one text. No program in sight.
-/
import Derived.Test.YtpbplpnifjbkoabGreatDoorTxt
namespace Go.Proofs.YtpbplpnifjbkoabGreatDoor

/-- Types; variables by number. -/
inductive Ty
  | var (n : Nat)
  | int
  | bool
  | list (a : Ty)
  | pair (a b : Ty)
  | arr (a b : Ty)
  deriving DecidableEq

def Ty.size : Ty → Nat
  | .var _ => 1
  | .int => 1
  | .bool => 1
  | .list a => 1 + a.size
  | .pair a b => 1 + a.size + b.size
  | .arr a b => 1 + a.size + b.size
theorem Ty.size_pos (t : Ty) : 1 ≤ t.size := by cases t <;> simp only [Ty.size] <;> omega

/-- Variables, each once, in the order in which they stand, behind those that are in l. -/
def varsL : Ty → List Nat → List Nat
  | .var n, l => if n ∈ l then l else l ++ [n]
  | .int, l => l
  | .bool, l => l
  | .list a, l => varsL a l
  | .pair a b, l => varsL b (varsL a l)
  | .arr a b, l => varsL b (varsL a l)
/-- All variables are below k. -/
def Ty.under (k : Nat) : Ty → Prop
  | .var n => n < k
  | .int => True
  | .bool => True
  | .list a => a.under k
  | .pair a b => a.under k ∧ b.under k
  | .arr a b => a.under k ∧ b.under k
theorem Ty.under_mono {k k' : Nat} (hk : k ≤ k') : ∀ {t : Ty}, t.under k → t.under k'
  | .var _n, h => Nat.lt_of_lt_of_le h hk
  | .int, _ => trivial
  | .bool, _ => trivial
  | .list a, h => Ty.under_mono (t := a) hk h
  | .pair a b, h => ⟨Ty.under_mono (t := a) hk h.1, Ty.under_mono (t := b) hk h.2⟩
  | .arr a b, h => ⟨Ty.under_mono (t := a) hk h.1, Ty.under_mono (t := b) hk h.2⟩

/-- One more name, where it is new. -/
def addName (x : Bytes) (ns : List Bytes) : List Bytes := if x ∈ ns then ns else ns ++ [x]

mutual
def pWhole : Nat → List Bytes → List Tok → Res (Ty × List Bytes)
  | 0, _, _ => none
  | n + 1, ns, ts => (pOne n ns ts).bind fun q ts =>
      if headKind ts = .arrow then (pWhole n q.2 (adv ts)).bind fun q' ts => some (.ok ((.arr q.1 q'.1, q'.2), ts)) else some (.ok (q, ts))
def pOne : Nat → List Bytes → List Tok → Res (Ty × List Bytes)
  | 0, _, _ => none
  | n + 1, ns, ts =>
    if headKind ts = .kInt then some (.ok ((.int, ns), adv ts))
    else if headKind ts = .kBool then some (.ok ((.bool, ns), adv ts))
    else if headKind ts = .lbr then (pWhole n ns (adv ts)).bind fun q ts => (want .rbr ts).bind fun _ ts => some (.ok ((.list q.1, q.2), ts))
    else if headKind ts = .lpar then (pWhole n ns (adv ts)).bind fun q ts =>
      if headKind ts = .comma then (pWhole n q.2 (adv ts)).bind fun q' ts => (want .rpar ts).bind fun _ ts => some (.ok ((.pair q.1 q'.1, q'.2), ts))
      else (want .rpar ts).bind fun _ ts => some (.ok (q, ts))
    else (want .name ts).bind fun x ts => some (.ok ((.var (ns.idxOf x), addName x ns), ts))
end

/-- The type of a text and its variables' names, or what is wrong with it. -/
def readTyp (s : Bytes) : Except (Nat × Nat) (Ty × List Bytes) :=
  if 300 < s.length then .error (1, 0) else
  match (pWhole (4 * s.length + 8) [] (tokens kwTyp s)).bind (fun q ts => (want .eof ts).bind fun _ _ => some (.ok (q, []))) with
  | none => .error (0, 0)
  | some (.error p) => .error (2, p)
  | some (.ok (q, _)) => if 120 < q.1.size then .error (8, 0) else .ok q

/-- The program's bounded count. -/
def sizeB : Ty → Int → Int
  | .var _, _ => 1
  | .int, _ => 1
  | .bool, _ => 1
  | .list a, b => if (1 : Int) ≤ b then 1 + sizeB a (b - 1) else 1
  | .pair a c, b => let n := if (1 : Int) ≤ b then 1 + sizeB a (b - 1) else 1; if n ≤ b then n + sizeB c (b - n) else n
  | .arr a c, b => let n := if (1 : Int) ≤ b then 1 + sizeB a (b - 1) else 1; if n ≤ b then n + sizeB c (b - n) else n
theorem sizeB_ok (t : Ty) : ∀ b : Int, (t.size ≤ b → sizeB t b = t.size) ∧ (b < t.size → b < sizeB t b) ∧ 1 ≤ sizeB t b ∧ sizeB t b ≤ t.size := by
  induction t with
  | var n => intro b; simp [Ty.size, sizeB]
  | int => intro b; simp [Ty.size, sizeB]
  | bool => intro b; simp [Ty.size, sizeB]
  | list a ih =>
    intro b
    have h := ih (b - 1)
    have hp := a.size_pos
    simp only [Ty.size, sizeB]
    split <;> refine ⟨fun _ => ?_, fun _ => ?_, ?_, ?_⟩ <;> omega
  | pair a c iha ihc =>
    intro b
    have h := iha (b - 1)
    have hp := a.size_pos
    have hc := c.size_pos
    simp only [Ty.size, sizeB]
    by_cases h1 : (1 : Int) ≤ b
    · rw [if_pos h1]
      have h' := ihc (b - (1 + sizeB a (b - 1)))
      split <;> refine ⟨fun _ => ?_, fun _ => ?_, ?_, ?_⟩ <;> omega
    · rw [if_neg h1, if_neg h1]
      refine ⟨fun _ => ?_, fun _ => ?_, ?_, ?_⟩ <;> omega
  | arr a c iha ihc =>
    intro b
    have h := iha (b - 1)
    have hp := a.size_pos
    have hc := c.size_pos
    simp only [Ty.size, sizeB]
    by_cases h1 : (1 : Int) ≤ b
    · rw [if_pos h1]
      have h' := ihc (b - (1 + sizeB a (b - 1)))
      split <;> refine ⟨fun _ => ?_, fun _ => ?_, ?_, ?_⟩ <;> omega
    · rw [if_neg h1, if_neg h1]
      refine ⟨fun _ => ?_, fun _ => ?_, ?_, ?_⟩ <;> omega

/-! ### Texts -/
def isArr : Ty → Bool
  | .arr _ _ => true
  | _ => false
/-- A type as a text, by names for its variables. -/
def shown (nm : Nat → Bytes) : Ty → Bytes
  | .var n => nm n
  | .int => [105, 110, 116]
  | .bool => [98, 111, 111, 108]
  | .list a => [91] ++ shown nm a ++ [93]
  | .pair a b => [40] ++ shown nm a ++ [44, 32] ++ shown nm b ++ [41]
  | .arr a b => (if isArr a then par (shown nm a) else shown nm a) ++ [32, 45, 62, 32] ++ shown nm b
theorem shown_len (nm : Nat → Bytes) (m : Nat) (hm : ∀ n, (nm n).length ≤ m) (t : Ty) : (shown nm t).length ≤ t.size * (m + 8) := by
  induction t with
  | var n => simp only [shown, Ty.size]; have := hm n; omega
  | int => simp [shown, Ty.size]
  | bool => simp [shown, Ty.size]
  | list a ih => simp only [shown, Ty.size, List.length_append, List.length_cons, List.length_nil, Nat.add_mul]; omega
  | pair a b iha ihb => simp only [shown, Ty.size, List.length_append, List.length_cons, List.length_nil, Nat.add_mul]; omega
  | arr a b iha ihb =>
    simp only [shown, Ty.size, List.length_append, List.length_cons, List.length_nil, Nat.add_mul]
    split <;> simp [par] <;> omega

/-- Decimal figures. -/
def figs (n : Nat) : Bytes := if n < 10 then [UInt8.ofNat (48 + n)] else figs (n / 10) ++ [UInt8.ofNat (48 + n % 10)]
/-- The n-th name of a variable. -/
def letter (n : Nat) : Bytes := if n < 26 then [UInt8.ofNat (97 + n % 26)] else UInt8.ofNat (97 + n % 26) :: figs (n / 26)
/-- The one text. -/
def canon (t : Ty) : Bytes := shown (fun v => letter ((varsL t []).idxOf v)) t

/-! ### Names given as variables are met -/
def met (v : Nat) (l : List Nat) : List Nat := if v ∈ l then l else l ++ [v]
def shownS : Ty → List Nat → Bytes × List Nat
  | .var n, l => (letter (l.idxOf n), met n l)
  | .int, l => ([105, 110, 116], l)
  | .bool, l => ([98, 111, 111, 108], l)
  | .list a, l => let p := shownS a l; ([91] ++ p.1 ++ [93], p.2)
  | .pair a b, l => let p := shownS a l; let q := shownS b p.2; ([40] ++ p.1 ++ [44, 32] ++ q.1 ++ [41], q.2)
  | .arr a b, l => let p := shownS a l; let q := shownS b p.2; ((if isArr a then par p.1 else p.1) ++ [32, 45, 62, 32] ++ q.1, q.2)
theorem varsL_ext (t : Ty) : ∀ l, ∃ m, varsL t l = l ++ m := by
  induction t with
  | var n => intro l; unfold varsL; split; exact ⟨[], by simp⟩; exact ⟨[n], rfl⟩
  | int => intro l; exact ⟨[], by simp [varsL]⟩
  | bool => intro l; exact ⟨[], by simp [varsL]⟩
  | list a ih => exact ih
  | pair a b iha ihb => intro l; obtain ⟨m, h⟩ := iha l; obtain ⟨m', h'⟩ := ihb (varsL a l); exact ⟨m ++ m', by rw [varsL, h', h, List.append_assoc]⟩
  | arr a b iha ihb => intro l; obtain ⟨m, h⟩ := iha l; obtain ⟨m', h'⟩ := ihb (varsL a l); exact ⟨m ++ m', by rw [varsL, h', h, List.append_assoc]⟩
/-- Does a variable stand there? -/
def Ty.has (v : Nat) : Ty → Prop
  | .var n => v = n
  | .int => False
  | .bool => False
  | .list a => a.has v
  | .pair a b => a.has v ∨ b.has v
  | .arr a b => a.has v ∨ b.has v
theorem mem_varsL (t : Ty) : ∀ l v, v ∈ varsL t l ↔ v ∈ l ∨ t.has v := by
  induction t with
  | var n => intro l v; unfold varsL Ty.has; split <;> simp; intro h; subst h; assumption
  | int => intro l v; simp [varsL, Ty.has]
  | bool => intro l v; simp [varsL, Ty.has]
  | list a ih => exact ih
  | pair a b iha ihb => intro l v; rw [varsL, ihb, iha, Ty.has, or_assoc]
  | arr a b iha ihb => intro l v; rw [varsL, ihb, iha, Ty.has, or_assoc]
theorem shown_congr {nm nm' : Nat → Bytes} {t : Ty} (h : ∀ v, t.has v → nm v = nm' v) : shown nm t = shown nm' t := by
  induction t with
  | var n => exact h n rfl
  | int => rfl
  | bool => rfl
  | list a ih => simp only [shown]; rw [ih h]
  | pair a b iha ihb => simp only [shown]; rw [iha fun v hv => h v (.inl hv), ihb fun v hv => h v (.inr hv)]
  | arr a b iha ihb => simp only [shown]; rw [iha fun v hv => h v (.inl hv), ihb fun v hv => h v (.inr hv)]
theorem idx_ext {l m : List Nat} {v : Nat} (h : v ∈ l) : (l ++ m).idxOf v = l.idxOf v := by rw [List.idxOf_append]; simp [h]
theorem shownS_eq (t : Ty) : ∀ l, shownS t l = (shown (fun v => letter ((varsL t l).idxOf v)) t, varsL t l) := by
  induction t with
  | var n =>
    intro l
    unfold shownS shown varsL met
    by_cases h : n ∈ l
    · simp [h]
    · simp [h, List.idxOf_append, List.idxOf_eq_length]
  | int => intro l; rfl
  | bool => intro l; rfl
  | list a ih => intro l; simp only [shownS, shown, varsL, ih]
  | pair a b iha ihb =>
    intro l
    simp only [shownS, shown, varsL, iha, ihb]
    obtain ⟨m, hm⟩ := varsL_ext b (varsL a l)
    rw [shown_congr (t := a) (nm' := fun v => letter ((varsL b (varsL a l)).idxOf v))]
    intro v hv
    rw [hm, idx_ext ((mem_varsL a l v).2 (.inr hv))]
  | arr a b iha ihb =>
    intro l
    simp only [shownS, shown, varsL, iha, ihb]
    obtain ⟨m, hm⟩ := varsL_ext b (varsL a l)
    rw [shown_congr (t := a) (nm' := fun v => letter ((varsL b (varsL a l)).idxOf v))]
    intro v hv
    rw [hm, idx_ext ((mem_varsL a l v).2 (.inr hv))]
theorem canon_eq (t : Ty) : (shownS t []).1 = canon t := by rw [shownS_eq]; rfl

/-! ### Fuel enough; what was read -/
theorem addName_ext (x : Bytes) (ns : List Bytes) : (∃ m, addName x ns = ns ++ m) ∧ (addName x ns).length ≤ ns.length + 1 ∧ ns.idxOf x < (addName x ns).length ∧ (ns.Nodup → (addName x ns).Nodup) := by
  unfold addName
  by_cases h : x ∈ ns
  · rw [if_pos h]; exact ⟨⟨[], by simp⟩, by omega, List.idxOf_lt_length_of_mem h, id⟩
  · rw [if_neg h]
    refine ⟨⟨[x], rfl⟩, by simp, by rw [List.idxOf_eq_length h]; simp, fun hn => ?_⟩
    rw [List.nodup_append]
    exact ⟨hn, by simp, fun a ha b hb => by simp at hb; subst hb; intro e; subst e; exact h ha⟩
/-- What is known of a type that was read, ahead of it ns, ts. -/
structure TyOK (ns : List Bytes) (ts : List Tok) (q : Ty × List Bytes) (ts' : List Tok) : Prop where
  lt : ts'.length < ts.length
  size : q.1.size + ts'.length ≤ ts.length
  ext : ∃ m, q.2 = ns ++ m
  few : q.2.length + ts'.length ≤ ns.length + ts.length
  under : q.1.under q.2.length
  nodup : ns.Nodup → q.2.Nodup
theorem TyOK.len {ns : List Bytes} {ts ts' : List Tok} {q : Ty × List Bytes} (h : TyOK ns ts q ts') : ns.length ≤ q.2.length := by
  obtain ⟨m, h⟩ := h.ext; rw [h]; simp
theorem fuelT_all : ∀ n,
    (∀ ns ts, wfT ts → 2 * ts.length ≤ n → Ok (pWhole n ns ts) (TyOK ns ts)) ∧
    (∀ ns ts, wfT ts → 2 * ts.length ≤ n + 1 → Ok (pOne n ns ts) (TyOK ns ts)) := by
  intro n
  induction n with
  | zero =>
    refine ⟨fun ns ts h hn => ?_, fun ns ts h hn => ?_⟩
    all_goals (have := h.pos; omega)
  | succ n ih =>
    obtain ⟨ihW, ihO⟩ := ih
    refine ⟨fun ns ts h hn => ?_, fun ns ts h hn => ?_⟩
    · unfold pWhole
      refine (ihO ns ts h (by omega)).bind fun q t1 w1 p1 => ?_
      by_cases hf : headKind t1 = .arrow
      · rw [if_pos hf]
        obtain ⟨a1, a2, a3⟩ := adv_kind w1 hf (by decide) (by decide)
        have l1 := p1.lt
        refine (ihW q.2 _ a1 (by omega)).bind fun q' t2 w2 p2 => Ok.ret w2 ⟨?_, ?_, ?_, ?_, ?_, ?_⟩
        · have := p2.lt; omega
        · have := p2.size; have := p1.size; simp only [Ty.size]; omega
        · obtain ⟨m, e1⟩ := p1.ext; obtain ⟨m', e2⟩ := p2.ext; exact ⟨m ++ m', by rw [e2, e1, List.append_assoc]⟩
        · have := p1.few; have := p2.few; simp only; omega
        · exact ⟨Ty.under_mono p2.len p1.under, p2.under⟩
        · exact fun hn => p2.nodup (p1.nodup hn)
      · rw [if_neg hf]
        exact Ok.ret w1 p1
    · unfold pOne
      by_cases hf : headKind ts = .kInt
      · rw [if_pos hf]
        obtain ⟨a1, a2, a3⟩ := adv_kind h hf (by decide) (by decide)
        exact Ok.ret a1 ⟨by omega, by simp only [Ty.size]; omega, ⟨[], by simp⟩, by simp only; omega, trivial, id⟩
      rw [if_neg hf]
      by_cases hf : headKind ts = .kBool
      · rw [if_pos hf]
        obtain ⟨a1, a2, a3⟩ := adv_kind h hf (by decide) (by decide)
        exact Ok.ret a1 ⟨by omega, by simp only [Ty.size]; omega, ⟨[], by simp⟩, by simp only; omega, trivial, id⟩
      rw [if_neg hf]
      by_cases hf : headKind ts = .lbr
      · rw [if_pos hf]
        obtain ⟨a1, a2, a3⟩ := adv_kind h hf (by decide) (by decide)
        refine (ihW ns _ a1 (by omega)).bind fun q t1 w1 p1 => (Ok.want w1 (by decide) (by decide)).bind fun _ t2 w2 ⟨b1, b2⟩ => Ok.ret w2 ⟨?_, ?_, p1.ext, ?_, p1.under, p1.nodup⟩
        · have := p1.lt; omega
        · have := p1.size; simp only [Ty.size]; omega
        · have := p1.few; simp only; omega
      rw [if_neg hf]
      by_cases hf : headKind ts = .lpar
      · rw [if_pos hf]
        obtain ⟨a1, a2, a3⟩ := adv_kind h hf (by decide) (by decide)
        refine (ihW ns _ a1 (by omega)).bind fun q t1 w1 p1 => ?_
        by_cases hc : headKind t1 = .comma
        · rw [if_pos hc]
          obtain ⟨b1, b2, b3⟩ := adv_kind w1 hc (by decide) (by decide)
          have l1 := p1.lt
          refine (ihW q.2 _ b1 (by omega)).bind fun q' t2 w2 p2 => (Ok.want w2 (by decide) (by decide)).bind fun _ t3 w3 ⟨c1, c2⟩ => Ok.ret w3 ⟨?_, ?_, ?_, ?_, ?_, ?_⟩
          · have := p2.lt; omega
          · have := p2.size; have := p1.size; simp only [Ty.size]; omega
          · obtain ⟨m, e1⟩ := p1.ext; obtain ⟨m', e2⟩ := p2.ext; exact ⟨m ++ m', by rw [e2, e1, List.append_assoc]⟩
          · have := p1.few; have := p2.few; simp only; omega
          · exact ⟨Ty.under_mono p2.len p1.under, p2.under⟩
          · exact fun hn => p2.nodup (p1.nodup hn)
        · rw [if_neg hc]
          refine (Ok.want w1 (by decide) (by decide)).bind fun _ t2 w2 ⟨b1, b2⟩ => Ok.ret w2 ⟨?_, ?_, p1.ext, ?_, p1.under, p1.nodup⟩
          · have := p1.lt; omega
          · have := p1.size; omega
          · have := p1.few; omega
      rw [if_neg hf]
      refine (Ok.want h (by decide) (by decide)).bind fun x t1 w1 ⟨b1, b2⟩ => ?_
      obtain ⟨e1, e2, e3, e4⟩ := addName_ext x ns
      exact Ok.ret w1 ⟨by omega, by simp only [Ty.size]; omega, e1, by simp only; omega, e3, e4⟩
end Go.Proofs.YtpbplpnifjbkoabGreatDoor

namespace Go.Proofs.YtpbplpnifjbkoabGreatDoor

/-! ### Tokens from a place on -/
theorem kwTyp_ne {b : Bytes} {k : Kind} (h : kwTyp b = some k) : k ≠ .eof ∧ k ≠ .bad := by
  unfold kwTyp at h
  split at h
  · cases h; decide
  · split at h
    · cases h; decide
    · cases h
theorem spanLen_pos {p : UInt8 → Bool} {c : UInt8} {r : Bytes} (h : p c = true) : spanLen p (c :: r) = spanLen p r + 1 := by simp [spanLen, h]
theorem spanLen_cons_no {p : UInt8 → Bool} {c : UInt8} {r : Bytes} (h : p c = false) : spanLen p (c :: r) = 0 := by simp [spanLen, h]
theorem spanLen_app {p : UInt8 → Bool} : ∀ {x r : Bytes}, (∀ c ∈ x, p c = true) → (∀ c, r.head? = some c → p c = false) → spanLen p (x ++ r) = x.length
  | [], [], _, _ => rfl
  | [], c :: r, _, h => by simp [spanLen, h c rfl]
  | c :: x, r, h, h' => by
    rw [List.cons_append, spanLen_pos (h c (by simp)), spanLen_app (fun d hd => h d (by simp [hd])) h']; rfl
/-- A token that is not the last takes some of the text, and no more than there is. -/
theorem tokAt_fit (i : Nat) (l : Bytes) : (tokAt kwTyp i l).2 ≤ l.length ∧ (last (tokAt kwTyp i l).1 = false → 0 < (tokAt kwTyp i l).2) := by
  cases l with
  | nil => exact ⟨Nat.le_refl _, fun h => by simp [tokAt, last] at h⟩
  | cons c r =>
    unfold tokAt
    simp only
    by_cases h1 : isSmall c = true
    · rw [if_pos h1]
      have hp : spanLen isAlnum (c :: r) = spanLen isAlnum r + 1 := spanLen_pos (by simp [isAlnum, h1])
      have hl := spanLen_le isAlnum (c :: r)
      split
      · exact ⟨by simp, fun h => by simp [last] at h⟩
      · exact ⟨hl, fun _ => by simp only; omega⟩
    rw [if_neg h1]
    by_cases h2 : isDigit c = true
    · rw [if_pos h2]
      have hp : spanLen isDigit (c :: r) = spanLen isDigit r + 1 := spanLen_pos h2
      have hl := spanLen_le isDigit (c :: r)
      split
      · exact ⟨by simp, fun h => by simp [last] at h⟩
      · exact ⟨hl, fun _ => by simp only; omega⟩
    rw [if_neg h2]
    by_cases h3 : c = 45 ∧ r.head? = some 62
    · rw [if_pos h3]
      cases r with
      | nil => simp at h3
      | cons d r => exact ⟨by simp, fun _ => by simp⟩
    rw [if_neg h3]
    split
    · exact ⟨by simp, fun _ => by simp⟩
    · exact ⟨by simp, fun h => by simp [last] at h⟩
theorem step_fit {s : Bytes} {i : Nat} (hi : i ≤ s.length) : (stepTok kwTyp i (s.drop i)).2 ≤ s.length ∧ (last (stepTok kwTyp i (s.drop i)).1 = false → i < (stepTok kwTyp i (s.drop i)).2) := by
  unfold stepTok
  simp only
  have h1 := spanLen_le isBlank (s.drop i)
  have h2 := tokAt_fit (i + spanLen isBlank (s.drop i)) ((s.drop i).drop (spanLen isBlank (s.drop i)))
  simp only [List.length_drop] at h1 h2
  exact ⟨by omega, fun h => by have := h2.2 h; omega⟩

def tk (s : Bytes) (i : Nat) : List Tok := toks kwTyp s (s.length + 1 - i) i
theorem toks_fuel {s : Bytes} : ∀ (n m i : Nat), i ≤ s.length → s.length - i < n → s.length - i < m → toks kwTyp s n i = toks kwTyp s m i := by
  intro n
  induction n with
  | zero => intro m i hi hn; omega
  | succ n ih =>
    intro m i hi hn hm
    obtain ⟨m, rfl⟩ : ∃ k, m = k + 1 := ⟨m - 1, by omega⟩
    unfold toks
    simp only
    by_cases hl : last (stepTok kwTyp i (s.drop i)).1 = true
    · rw [if_pos hl, if_pos hl]
    · rw [if_neg hl, if_neg hl]
      obtain ⟨h1, h2⟩ := step_fit hi
      have h3 := h2 (eq_false_of_ne_true hl)
      rw [ih m _ h1 (by omega) (by omega)]
theorem tk_step {s : Bytes} {i : Nat} (hi : i ≤ s.length) : tk s i = if last (stepTok kwTyp i (s.drop i)).1 then [(stepTok kwTyp i (s.drop i)).1] else (stepTok kwTyp i (s.drop i)).1 :: tk s (stepTok kwTyp i (s.drop i)).2 := by
  unfold tk
  obtain ⟨k, hk⟩ : ∃ k, s.length + 1 - i = k + 1 := ⟨s.length - i, by omega⟩
  rw [hk]
  conv => lhs; unfold toks
  simp only
  by_cases hl : last (stepTok kwTyp i (s.drop i)).1 = true
  · rw [if_pos hl, if_pos hl]
  · rw [if_neg hl, if_neg hl]
    obtain ⟨h1, h2⟩ := step_fit hi
    have h3 := h2 (eq_false_of_ne_true hl)
    rw [toks_fuel k (s.length + 1 - (stepTok kwTyp i (s.drop i)).2) _ h1 (by omega) (by omega)]
theorem tk_ne {s : Bytes} {i : Nat} (hi : i ≤ s.length) : tk s i ≠ [] := by
  rw [tk_step hi]; split <;> simp
theorem drop_le {s l : Bytes} {i : Nat} {x : Bytes} (h : s.drop i = x ++ l) (hx : x ≠ [] ∨ i ≤ s.length) : i + x.length ≤ s.length ∧ s.drop (i + x.length) = l := by
  have h1 : (s.drop i).length = (x ++ l).length := by rw [h]
  simp only [List.length_drop, List.length_append] at h1
  refine ⟨?_, by rw [← List.drop_drop, h]; simp⟩
  rcases hx with hx | hx
  · have : 0 < x.length := List.length_pos_iff.2 hx
    omega
  · omega
/-- One token, not the last. -/
theorem tk_tok {s x l : Bytes} {i : Nat} {k : Kind} (h : s.drop i = x ++ l) (hx : x ≠ []) (ht : tokAt kwTyp i (x ++ l) = (⟨k, x, i⟩, x.length)) (hb : ∀ c, (x ++ l).head? = some c → isBlank c = false) (hk : k ≠ .eof ∧ k ≠ .bad) :
    headKind (tk s i) = k ∧ headText (tk s i) = x ∧ adv (tk s i) = tk s (i + x.length) := by
  obtain ⟨h1, h2⟩ := drop_le h (.inl hx)
  have hs : spanLen isBlank (x ++ l) = 0 := by
    cases x with
    | nil => exact (hx rfl).elim
    | cons c r => exact spanLen_cons_no (hb c rfl)
  have hst : stepTok kwTyp i (s.drop i) = (⟨k, x, i⟩, i + x.length) := by
    unfold stepTok
    rw [h]
    simp only [hs, Nat.add_zero, List.drop_zero, ht]
  rw [tk_step (by omega), hst]
  have hl : last ⟨k, x, i⟩ = false := by simp [last, hk]
  simp only [hl, Bool.false_eq_true, if_false]
  refine ⟨rfl, rfl, ?_⟩
  have := tk_ne h1
  cases hq : tk s (i + x.length) with
  | nil => exact (this hq).elim
  | cons a b => rfl
theorem tk_blank {s l : Bytes} {i : Nat} (h : s.drop i = 32 :: l) : tk s i = tk s (i + 1) ∧ s.drop (i + 1) = l ∧ i + 1 ≤ s.length := by
  obtain ⟨h1, h2⟩ := drop_le (x := [32]) h (.inl (by simp))
  simp only [List.length_cons, List.length_nil, Nat.zero_add] at h1 h2
  refine ⟨?_, h2, h1⟩
  have hst : stepTok kwTyp i (s.drop i) = stepTok kwTyp (i + 1) (s.drop (i + 1)) := by
    rw [h, h2]
    unfold stepTok
    rw [spanLen_pos (by decide)]
    simp only [List.drop_succ_cons]
    rw [show i + (spanLen isBlank l + 1) = i + 1 + spanLen isBlank l by omega]
  rw [tk_step (by omega), tk_step h1, hst]
theorem tk_end {s : Bytes} {i : Nat} (hi : i ≤ s.length) (h : s.drop i = []) : headKind (tk s i) = .eof := by
  rw [tk_step hi, h]; rfl

/-- A name that is no keyword of types. -/
def NameOK (x : Bytes) : Prop := (∃ c r, x = c :: r ∧ isSmall c = true) ∧ (∀ c ∈ x, isAlnum c = true) ∧ x.length ≤ 8 ∧ kwTyp x = none
/-- No letter or figure ahead. -/
def Delim (r : Bytes) : Prop := ∀ c, r.head? = some c → isAlnum c = false
theorem small_blank {c : UInt8} (h : isSmall c = true) : isBlank c = false := by
  simp only [isSmall, Bool.and_eq_true, decide_eq_true_eq] at h
  simp only [isBlank, Bool.or_eq_false_iff, beq_eq_false_iff_ne]
  constructor <;> rintro rfl <;> exact absurd h.1 (by decide)
theorem tokAt_word {x l : Bytes} (i : Nat) (hx : ∃ c r, x = c :: r ∧ isSmall c = true) (ha : ∀ c ∈ x, isAlnum c = true) (hn : x.length ≤ 8) (hd : Delim l) : tokAt kwTyp i (x ++ l) = (⟨(kwTyp x).getD .name, x, i⟩, x.length) := by
  obtain ⟨c, r, rfl, hc⟩ := hx
  have hs := spanLen_app ha hd
  unfold tokAt
  simp only [List.cons_append, hc, if_true]
  rw [← List.cons_append, hs]
  rw [if_neg (by omega)]
  simp
theorem tk_word {s x l : Bytes} {i : Nat} (h : s.drop i = x ++ l) (hx : ∃ c r, x = c :: r ∧ isSmall c = true) (ha : ∀ c ∈ x, isAlnum c = true) (hn : x.length ≤ 8) (hd : Delim l) {k : Kind} (hk : (kwTyp x).getD .name = k) (h2 : k ≠ .eof ∧ k ≠ .bad) :
    headKind (tk s i) = k ∧ headText (tk s i) = x ∧ adv (tk s i) = tk s (i + x.length) := by
  subst hk
  refine tk_tok h ?_ (tokAt_word i hx ha hn hd) ?_ h2
  · obtain ⟨c, r, rfl, _⟩ := hx; simp
  · obtain ⟨c, r, rfl, hc⟩ := hx
    intro d hd
    simp at hd; subst hd
    exact small_blank hc
theorem tk_sign {s l : Bytes} {i : Nat} {c : UInt8} (h : s.drop i = c :: l) {k : Kind} (hk : signKind c = some k) (h1 : isSmall c = false ∧ isDigit c = false ∧ c ≠ 45 ∧ isBlank c = false) (h2 : k ≠ .eof ∧ k ≠ .bad) :
    headKind (tk s i) = k ∧ adv (tk s i) = tk s (i + 1) ∧ s.drop (i + 1) = l ∧ i + 1 ≤ s.length := by
  have hd := drop_le (x := [c]) h (.inl (by simp))
  have := tk_tok (x := [c]) h (by simp) (k := k) (by simp [tokAt, h1, hk]) (by simp [h1]) h2
  exact ⟨this.1, this.2.2, hd.2, hd.1⟩
theorem tk_arrow {s l : Bytes} {i : Nat} (h : s.drop i = 45 :: 62 :: l) : headKind (tk s i) = .arrow ∧ adv (tk s i) = tk s (i + 2) ∧ s.drop (i + 2) = l ∧ i + 2 ≤ s.length := by
  have hd := drop_le (x := [45, 62]) h (.inl (by simp))
  have := tk_tok (x := [45, 62]) h (by simp) (k := .arrow) (by simp [tokAt, isSmall, isDigit]) (by simp [isBlank]) (by decide)
  exact ⟨this.1, this.2.2, hd.2, hd.1⟩

/-! ### Reading back -/
/-- What is read of a type's text, behind names that were read. -/
def back (nm : Nat → Bytes) : Ty → List Bytes → Ty × List Bytes
  | .var v, l => (.var (l.idxOf (nm v)), addName (nm v) l)
  | .int, l => (.int, l)
  | .bool, l => (.bool, l)
  | .list a, l => let p := back nm a l; (.list p.1, p.2)
  | .pair a b, l => let p := back nm a l; let q := back nm b p.2; (.pair p.1 q.1, q.2)
  | .arr a b, l => let p := back nm a l; let q := back nm b p.2; (.arr p.1 q.1, q.2)

theorem want_ok {k : Kind} {ts : List Tok} (h : headKind ts = k) : want k ts = some (.ok (headText ts, adv ts)) := by simp [want, h]
theorem bind_ok {α β : Type} (a : α) (ts : List Tok) (f : α → List Tok → Res β) : Res.bind (some (.ok (a, ts))) f = f a ts := rfl
theorem delim_sign {c : UInt8} {r : Bytes} (h : isAlnum c = false) : Delim (c :: r) := by
  intro d hd; simp at hd; subst hd; exact h
theorem isArr_shown (nm : Nat → Bytes) (a : Ty) : (shown nm a).length ≤ (if isArr a then par (shown nm a) else shown nm a).length := by split <;> simp [par]; omega

theorem back_all (nm : Nat → Bytes) (t : Ty) : (∀ v, t.has v → NameOK (nm v)) →
    (isArr t = false → ∀ (s : Bytes) (i : Nat) (r : Bytes) (l : List Bytes) (n : Nat), i ≤ s.length → s.drop i = shown nm t ++ r → Delim r → 3 * t.size ≤ n →
      pOne n l (tk s i) = some (.ok (back nm t l, tk s (i + (shown nm t).length)))) ∧
    (∀ (s : Bytes) (i : Nat) (r : Bytes) (l : List Bytes) (n : Nat), i ≤ s.length → s.drop i = shown nm t ++ r → Delim r → headKind (tk s (i + (shown nm t).length)) ≠ .arrow → 3 * t.size + 1 ≤ n →
      pWhole n l (tk s i) = some (.ok (back nm t l, tk s (i + (shown nm t).length)))) := by
  have lift : ∀ t : Ty, isArr t = false → (∀ (s : Bytes) (i : Nat) (r : Bytes) (l : List Bytes) (n : Nat), i ≤ s.length → s.drop i = shown nm t ++ r → Delim r → 3 * t.size ≤ n →
      pOne n l (tk s i) = some (.ok (back nm t l, tk s (i + (shown nm t).length)))) →
    (∀ (s : Bytes) (i : Nat) (r : Bytes) (l : List Bytes) (n : Nat), i ≤ s.length → s.drop i = shown nm t ++ r → Delim r → headKind (tk s (i + (shown nm t).length)) ≠ .arrow → 3 * t.size + 1 ≤ n →
      pWhole n l (tk s i) = some (.ok (back nm t l, tk s (i + (shown nm t).length)))) := by
    intro t _ h s i r l n hi hd hdel hna hn
    obtain ⟨n, rfl⟩ : ∃ k, n = k + 1 := ⟨n - 1, by omega⟩
    unfold pWhole
    rw [h s i r l n hi hd hdel (by omega), bind_ok, if_neg hna]
  induction t with
  | var v =>
    intro hv
    have h1 : ∀ (s : Bytes) (i : Nat) (r : Bytes) (l : List Bytes) (n : Nat), i ≤ s.length → s.drop i = shown nm (.var v) ++ r → Delim r → 3 * (Ty.var v).size ≤ n →
      pOne n l (tk s i) = some (.ok (back nm (.var v) l, tk s (i + (shown nm (.var v)).length))) := by
      intro s i r l n hi hd hdel hn
      obtain ⟨n, rfl⟩ : ∃ k, n = k + 1 := ⟨n - 1, by have := Ty.size_pos (.int); have h3 : 3 * 1 ≤ n := hn; omega⟩
      obtain ⟨w1, w2, w3, w4⟩ := hv v rfl
      obtain ⟨e1, e2, e3⟩ := tk_word (x := nm v) hd w1 w2 w3 hdel (k := .name) (by simp [w4]) (by decide)
      unfold pOne
      rw [if_neg (by rw [e1]; decide), if_neg (by rw [e1]; decide), if_neg (by rw [e1]; decide), if_neg (by rw [e1]; decide), want_ok e1, bind_ok, e2, e3]
      rfl
    exact ⟨fun _ => h1, lift _ rfl h1⟩
  | int =>
    intro hv
    have h1 : ∀ (s : Bytes) (i : Nat) (r : Bytes) (l : List Bytes) (n : Nat), i ≤ s.length → s.drop i = shown nm .int ++ r → Delim r → 3 * (Ty.int).size ≤ n →
      pOne n l (tk s i) = some (.ok (back nm .int l, tk s (i + (shown nm .int).length))) := by
      intro s i r l n hi hd hdel hn
      obtain ⟨n, rfl⟩ : ∃ k, n = k + 1 := ⟨n - 1, by have := Ty.size_pos (.int); have h3 : 3 * 1 ≤ n := hn; omega⟩
      obtain ⟨e1, e2, e3⟩ := tk_word (x := [105, 110, 116]) hd ⟨105, [110, 116], rfl, by decide⟩ (by decide) (by decide) hdel (k := .kInt) (by decide) (by decide)
      unfold pOne
      rw [if_pos e1, e3]
      rfl
    exact ⟨fun _ => h1, lift _ rfl h1⟩
  | bool =>
    intro hv
    have h1 : ∀ (s : Bytes) (i : Nat) (r : Bytes) (l : List Bytes) (n : Nat), i ≤ s.length → s.drop i = shown nm .bool ++ r → Delim r → 3 * (Ty.bool).size ≤ n →
      pOne n l (tk s i) = some (.ok (back nm .bool l, tk s (i + (shown nm .bool).length))) := by
      intro s i r l n hi hd hdel hn
      obtain ⟨n, rfl⟩ : ∃ k, n = k + 1 := ⟨n - 1, by have := Ty.size_pos (.int); have h3 : 3 * 1 ≤ n := hn; omega⟩
      obtain ⟨e1, e2, e3⟩ := tk_word (x := [98, 111, 111, 108]) hd ⟨98, [111, 111, 108], rfl, by decide⟩ (by decide) (by decide) hdel (k := .kBool) (by decide) (by decide)
      unfold pOne
      rw [if_neg (by rw [e1]; decide), if_pos e1, e3]
      rfl
    exact ⟨fun _ => h1, lift _ rfl h1⟩
  | list a ih =>
    intro hv
    obtain ⟨_, ihW⟩ := ih hv
    have h1 : ∀ (s : Bytes) (i : Nat) (r : Bytes) (l : List Bytes) (n : Nat), i ≤ s.length → s.drop i = shown nm (.list a) ++ r → Delim r → 3 * (Ty.list a).size ≤ n →
      pOne n l (tk s i) = some (.ok (back nm (.list a) l, tk s (i + (shown nm (.list a)).length))) := by
      intro s i r l n hi hd hdel hn
      simp only [Ty.size] at hn
      obtain ⟨n, rfl⟩ : ∃ k, n = k + 1 := ⟨n - 1, by omega⟩
      have hd' : s.drop i = 91 :: (shown nm a ++ 93 :: r) := by rw [hd]; simp [shown]
      obtain ⟨e1, e2, e3, e4⟩ := tk_sign hd' (k := .lbr) (by decide) (by decide) (by decide)
      obtain ⟨f1, f2⟩ := drop_le e3 (.inr e4)
      obtain ⟨g1, g2, g3, g4⟩ := tk_sign f2 (k := .rbr) (by decide) (by decide) (by decide)
      unfold pOne
      rw [if_neg (by rw [e1]; decide), if_neg (by rw [e1]; decide), if_pos e1, e2,
        ihW s (i + 1) _ l n e4 e3 (delim_sign (by decide)) (by rw [g1]; decide) (by omega), bind_ok, want_ok g1, bind_ok, g2]
      have : i + 1 + (shown nm a).length + 1 = i + (shown nm (.list a)).length := by simp [shown]; omega
      rw [this]; rfl
    exact ⟨fun _ => h1, lift _ rfl h1⟩
  | pair a b iha ihb =>
    intro hv
    obtain ⟨_, iha⟩ := iha fun v h => hv v (.inl h)
    obtain ⟨_, ihb⟩ := ihb fun v h => hv v (.inr h)
    have h1 : ∀ (s : Bytes) (i : Nat) (r : Bytes) (l : List Bytes) (n : Nat), i ≤ s.length → s.drop i = shown nm (.pair a b) ++ r → Delim r → 3 * (Ty.pair a b).size ≤ n →
      pOne n l (tk s i) = some (.ok (back nm (.pair a b) l, tk s (i + (shown nm (.pair a b)).length))) := by
      intro s i r l n hi hd hdel hn
      simp only [Ty.size] at hn
      obtain ⟨n, rfl⟩ : ∃ k, n = k + 1 := ⟨n - 1, by omega⟩
      have hd' : s.drop i = 40 :: (shown nm a ++ 44 :: 32 :: (shown nm b ++ 41 :: r)) := by rw [hd]; simp [shown]
      obtain ⟨e1, e2, e3, e4⟩ := tk_sign hd' (k := .lpar) (by decide) (by decide) (by decide)
      obtain ⟨f1, f2⟩ := drop_le e3 (.inr e4)
      obtain ⟨g1, g2, g3, g4⟩ := tk_sign f2 (k := .comma) (by decide) (by decide) (by decide)
      obtain ⟨b1, b2, b3⟩ := tk_blank g3
      obtain ⟨j1, j2⟩ := drop_le b2 (.inr b3)
      obtain ⟨k1, k2, k3, k4⟩ := tk_sign j2 (k := .rpar) (by decide) (by decide) (by decide)
      unfold pOne
      rw [if_neg (by rw [e1]; decide), if_neg (by rw [e1]; decide), if_neg (by rw [e1]; decide), if_pos e1, e2,
        iha s (i + 1) _ l n e4 e3 (delim_sign (by decide)) (by rw [g1]; decide) (by omega), bind_ok, if_pos g1, g2, b1,
        ihb s _ _ _ n b3 b2 (delim_sign (by decide)) (by rw [k1]; decide) (by omega), bind_ok, want_ok k1, bind_ok, k2]
      have : i + 1 + (shown nm a).length + 1 + 1 + (shown nm b).length + 1 = i + (shown nm (.pair a b)).length := by simp [shown]; omega
      rw [this]; rfl
    exact ⟨fun _ => h1, lift _ rfl h1⟩
  | arr a b iha ihb =>
    intro hv
    obtain ⟨iha1, iha⟩ := iha fun v h => hv v (.inl h)
    obtain ⟨_, ihb⟩ := ihb fun v h => hv v (.inr h)
    refine ⟨fun h => by simp [isArr] at h, ?_⟩
    intro s i r l n hi hd hdel hna hn
    simp only [Ty.size] at hn
    have hpa := a.size_pos
    have hpb := b.size_pos
    obtain ⟨n, rfl⟩ : ∃ k, n = k + 1 := ⟨n - 1, by omega⟩
    have hd' : s.drop i = (if isArr a then par (shown nm a) else shown nm a) ++ 32 :: 45 :: 62 :: 32 :: (shown nm b ++ r) := by rw [hd]; simp [shown]
    have hone : pOne n l (tk s i) = some (.ok (back nm a l, tk s (i + (if isArr a then par (shown nm a) else shown nm a).length))) := by
      by_cases ha : isArr a = true
      · rw [if_pos ha] at hd' ⊢
        have hd2 : s.drop i = 40 :: (shown nm a ++ 41 :: 32 :: 45 :: 62 :: 32 :: (shown nm b ++ r)) := by rw [hd']; simp [par]
        obtain ⟨e1, e2, e3, e4⟩ := tk_sign hd2 (k := .lpar) (by decide) (by decide) (by decide)
        obtain ⟨f1, f2⟩ := drop_le e3 (.inr e4)
        obtain ⟨g1, g2, g3, g4⟩ := tk_sign f2 (k := .rpar) (by decide) (by decide) (by decide)
        obtain ⟨n, rfl⟩ : ∃ k, n = k + 1 := ⟨n - 1, by omega⟩
        unfold pOne
        rw [if_neg (by rw [e1]; decide), if_neg (by rw [e1]; decide), if_neg (by rw [e1]; decide), if_pos e1, e2,
          iha s (i + 1) _ l n e4 e3 (delim_sign (by decide)) (by rw [g1]; decide) (by omega), bind_ok, if_neg (by rw [g1]; decide), want_ok g1, bind_ok, g2]
        have : i + 1 + (shown nm a).length + 1 = i + (par (shown nm a)).length := by simp [par]; omega
        rw [this]
      · rw [if_neg ha] at hd' ⊢
        exact iha1 (eq_false_of_ne_true ha) s i _ l n hi hd' (delim_sign (by decide)) (by omega)
    obtain ⟨f1, f2⟩ := drop_le hd' (.inr hi)
    obtain ⟨b1, b2, b3⟩ := tk_blank f2
    obtain ⟨g1, g2, g3, g4⟩ := tk_arrow b2
    obtain ⟨c1, c2, c3⟩ := tk_blank g3
    have hlen : i + (if isArr a then par (shown nm a) else shown nm a).length + 1 + 2 + 1 + (shown nm b).length = i + (shown nm (.arr a b)).length := by simp [shown]; omega
    unfold pWhole
    rw [hone, bind_ok, b1, if_pos g1, g2, c1, ihb s _ _ _ n c3 c2 hdel (by rw [hlen]; exact hna) (by omega), bind_ok, hlen]
    rfl

/-- A whole text. -/
theorem read_shown (nm : Nat → Bytes) (t : Ty) (hv : ∀ v, t.has v → NameOK (nm v)) (hl : (shown nm t).length ≤ 300) (hs : t.size ≤ 120) : readTyp (shown nm t) = if 120 < (back nm t []).1.size then .error (8, 0) else .ok (back nm t []) := by
  have hsz : 3 * t.size + 1 ≤ 4 * (shown nm t).length + 8 := by
    have : ∀ t : Ty, (∀ v, t.has v → NameOK (nm v)) → t.size ≤ (shown nm t).length := by
      intro t
      induction t with
      | var v =>
        intro h
        obtain ⟨⟨c, r, e, _⟩, _⟩ := h v rfl
        simp [shown, Ty.size, e]
      | int => intro _; simp [shown, Ty.size]
      | bool => intro _; simp [shown, Ty.size]
      | list a ih => intro h; have := ih h; simp [shown, Ty.size]; omega
      | pair a b iha ihb => intro h; have := iha fun v hh => h v (.inl hh); have := ihb fun v hh => h v (.inr hh); simp [shown, Ty.size]; omega
      | arr a b iha ihb => intro h; have := iha fun v hh => h v (.inl hh); have := ihb fun v hh => h v (.inr hh); have := isArr_shown nm a; simp only [shown, Ty.size, List.length_append, List.length_cons, List.length_nil]; omega
    have := this t hv
    omega
  have he : headKind (tk (shown nm t) (0 + (shown nm t).length)) = .eof := tk_end (by simp) (by simp)
  have hw := (back_all nm t hv).2 (shown nm t) 0 [] [] (4 * (shown nm t).length + 8) (by simp) (by simp) (fun c h => by simp at h) (by rw [he]; decide) hsz
  unfold readTyp
  rw [if_neg (by omega), show tokens kwTyp (shown nm t) = tk (shown nm t) 0 from rfl, hw, bind_ok, want_ok he, bind_ok]
end Go.Proofs.YtpbplpnifjbkoabGreatDoor

namespace Go.Proofs.YtpbplpnifjbkoabGreatDoor

/-- Types put for variables. -/
def Ty.put (σ : Nat → Ty) : Ty → Ty
  | .var v => σ v
  | .int => .int
  | .bool => .bool
  | .list a => .list (a.put σ)
  | .pair a b => .pair (a.put σ) (b.put σ)
  | .arr a b => .arr (a.put σ) (b.put σ)
/-- Variables renumbered. -/
def Ty.ren (f : Nat → Nat) (t : Ty) : Ty := t.put fun v => .var (f v)
theorem put_congr {σ τ : Nat → Ty} {t : Ty} (h : ∀ v, t.has v → σ v = τ v) : t.put σ = t.put τ := by
  induction t with
  | var n => exact h n rfl
  | int => rfl
  | bool => rfl
  | list a ih => simp only [Ty.put]; rw [ih h]
  | pair a b iha ihb => simp only [Ty.put]; rw [iha fun v hv => h v (.inl hv), ihb fun v hv => h v (.inr hv)]
  | arr a b iha ihb => simp only [Ty.put]; rw [iha fun v hv => h v (.inl hv), ihb fun v hv => h v (.inr hv)]
theorem ren_size (f : Nat → Nat) (t : Ty) : (t.ren f).size = t.size := by
  induction t with
  | var n => rfl
  | int => rfl
  | bool => rfl
  | list a ih => exact congrArg (1 + ·) ih
  | pair a b iha ihb => simp only [Ty.ren, Ty.put, Ty.size] at iha ihb ⊢; rw [iha, ihb]
  | arr a b iha ihb => simp only [Ty.ren, Ty.put, Ty.size] at iha ihb ⊢; rw [iha, ihb]
theorem ren_has {f : Nat → Nat} {t : Ty} {w : Nat} : (t.ren f).has w ↔ ∃ v, t.has v ∧ w = f v := by
  induction t with
  | var n => simp only [Ty.ren, Ty.put, Ty.has]; exact ⟨fun h => ⟨n, rfl, h⟩, fun ⟨v, h1, h2⟩ => h1 ▸ h2⟩
  | int => simp [Ty.ren, Ty.put, Ty.has]
  | bool => simp [Ty.ren, Ty.put, Ty.has]
  | list a ih => exact ih
  | pair a b iha ihb =>
    simp only [Ty.ren, Ty.put, Ty.has] at iha ihb ⊢
    rw [iha, ihb]
    exact ⟨fun h => h.elim (fun ⟨v, h, e⟩ => ⟨v, .inl h, e⟩) (fun ⟨v, h, e⟩ => ⟨v, .inr h, e⟩), fun ⟨v, h, e⟩ => h.imp (fun h => ⟨v, h, e⟩) (fun h => ⟨v, h, e⟩)⟩
  | arr a b iha ihb =>
    simp only [Ty.ren, Ty.put, Ty.has] at iha ihb ⊢
    rw [iha, ihb]
    exact ⟨fun h => h.elim (fun ⟨v, h, e⟩ => ⟨v, .inl h, e⟩) (fun ⟨v, h, e⟩ => ⟨v, .inr h, e⟩), fun ⟨v, h, e⟩ => h.imp (fun h => ⟨v, h, e⟩) (fun h => ⟨v, h, e⟩)⟩
theorem isArr_ren (f : Nat → Nat) (t : Ty) : isArr (t.ren f) = isArr t := by cases t <;> rfl
theorem shown_ren (nm : Nat → Bytes) (f : Nat → Nat) (t : Ty) : shown nm (t.ren f) = shown (fun v => nm (f v)) t := by
  induction t with
  | var n => rfl
  | int => rfl
  | bool => rfl
  | list a ih => simp only [Ty.ren, Ty.put, shown] at ih ⊢; rw [ih]
  | pair a b iha ihb => simp only [Ty.ren, Ty.put, shown] at iha ihb ⊢; rw [iha, ihb]
  | arr a b iha ihb =>
    have h := isArr_ren f a
    simp only [Ty.ren, Ty.put, shown] at iha ihb h ⊢
    rw [iha, ihb, h]

theorem varsL_nodup (t : Ty) : ∀ l : List Nat, l.Nodup → (varsL t l).Nodup := by
  induction t with
  | var n =>
    intro l hl
    unfold varsL
    split
    · exact hl
    · rename_i h
      rw [List.nodup_append]
      exact ⟨hl, by simp, fun a ha b hb => by simp at hb; subst hb; rintro rfl; exact h ha⟩
  | int => intro l h; exact h
  | bool => intro l h; exact h
  | list a ih => exact ih
  | pair a b iha ihb => intro l h; exact ihb _ (iha _ h)
  | arr a b iha ihb => intro l h; exact ihb _ (iha _ h)

theorem idxOf_map {α β : Type} [BEq α] [LawfulBEq α] [BEq β] [LawfulBEq β] (f : α → β) : ∀ (l : List α) (v : α), (∀ u ∈ l, f u = f v → u = v) → (l.map f).idxOf (f v) = l.idxOf v
  | [], _, _ => rfl
  | a :: l, v, h => by
    have ih := idxOf_map f l v fun u hu => h u (by simp [hu])
    by_cases hav : a = v
    · subst hav; simp
    · have hne : f a ≠ f v := fun e => hav (h a (by simp) e)
      rw [List.map_cons, List.idxOf_cons, List.idxOf_cons, ih, beq_false_of_ne hne, beq_false_of_ne hav]
/-- Where names tell variables apart, a text is read back as the type, its variables by their places. -/
theorem back_eq (nm : Nat → Bytes) (t : Ty) : ∀ l : List Nat, (∀ u v, (u ∈ l ∨ t.has u) → (v ∈ l ∨ t.has v) → nm u = nm v → u = v) →
    back nm t (l.map nm) = (t.ren fun v => (varsL t l).idxOf v, (varsL t l).map nm) := by
  induction t with
  | var n =>
    intro l hi
    have hmem : nm n ∈ l.map nm ↔ n ∈ l := by
      constructor
      · intro h
        obtain ⟨u, hu, e⟩ := List.mem_map.1 h
        exact hi u n (.inl hu) (.inr rfl) e ▸ hu
      · exact fun h => List.mem_map.2 ⟨n, h, rfl⟩
    have hidx : (l.map nm).idxOf (nm n) = l.idxOf n := idxOf_map nm l n fun u hu e => hi u n (.inl hu) (.inr rfl) e
    simp only [back, addName, varsL, Ty.ren, Ty.put, hidx, hmem]
    by_cases h : n ∈ l
    · simp [h]
    · simp [h, List.idxOf_append, List.idxOf_eq_length]
  | int => intro l _; rfl
  | bool => intro l _; rfl
  | list a ih => intro l hi; simp only [back, ih l hi]; rfl
  | pair a b iha ihb =>
    intro l hi
    have ha := iha l fun u v hu hv => hi u v (hu.imp id .inl) (hv.imp id .inl)
    have hb := ihb (varsL a l) fun u v hu hv => by
      refine hi u v ?_ ?_
      · rcases hu with hu | hu
        · exact ((mem_varsL a l u).1 hu).imp id .inl
        · exact .inr (.inr hu)
      · rcases hv with hv | hv
        · exact ((mem_varsL a l v).1 hv).imp id .inl
        · exact .inr (.inr hv)
    simp only [back, ha, hb, varsL]
    obtain ⟨m, hm⟩ := varsL_ext b (varsL a l)
    refine Prod.ext ?_ rfl
    simp only [Ty.ren, Ty.put]
    congr 1
    refine put_congr fun v hv => ?_
    rw [hm, idx_ext ((mem_varsL a l v).2 (.inr hv))]
  | arr a b iha ihb =>
    intro l hi
    have ha := iha l fun u v hu hv => hi u v (hu.imp id .inl) (hv.imp id .inl)
    have hb := ihb (varsL a l) fun u v hu hv => by
      refine hi u v ?_ ?_
      · rcases hu with hu | hu
        · exact ((mem_varsL a l u).1 hu).imp id .inl
        · exact .inr (.inr hu)
      · rcases hv with hv | hv
        · exact ((mem_varsL a l v).1 hv).imp id .inl
        · exact .inr (.inr hv)
    simp only [back, ha, hb, varsL]
    obtain ⟨m, hm⟩ := varsL_ext b (varsL a l)
    refine Prod.ext ?_ rfl
    simp only [Ty.ren, Ty.put]
    congr 1
    refine put_congr fun v hv => ?_
    rw [hm, idx_ext ((mem_varsL a l v).2 (.inr hv))]

theorem varsL_ren (f : Nat → Nat) (t : Ty) : ∀ l : List Nat, (∀ u v, (u ∈ l ∨ t.has u) → (v ∈ l ∨ t.has v) → f u = f v → u = v) → varsL (t.ren f) (l.map f) = (varsL t l).map f := by
  induction t with
  | var n =>
    intro l hi
    have hmem : f n ∈ l.map f ↔ n ∈ l := by
      constructor
      · intro h
        obtain ⟨u, hu, e⟩ := List.mem_map.1 h
        exact hi u n (.inl hu) (.inr rfl) e ▸ hu
      · exact fun h => List.mem_map.2 ⟨n, h, rfl⟩
    simp only [Ty.ren, Ty.put, varsL, hmem]
    split <;> simp
  | int => intro l _; rfl
  | bool => intro l _; rfl
  | list a ih => exact ih
  | pair a b iha ihb =>
    intro l hi
    show varsL (b.ren f) (varsL (a.ren f) (l.map f)) = _
    rw [iha l fun u v hu hv => hi u v (hu.imp id .inl) (hv.imp id .inl), ihb (varsL a l) fun u v hu hv => by
      refine hi u v ?_ ?_
      · rcases hu with hu | hu
        · exact ((mem_varsL a l u).1 hu).imp id .inl
        · exact .inr (.inr hu)
      · rcases hv with hv | hv
        · exact ((mem_varsL a l v).1 hv).imp id .inl
        · exact .inr (.inr hv)]
    rfl
  | arr a b iha ihb =>
    intro l hi
    show varsL (b.ren f) (varsL (a.ren f) (l.map f)) = _
    rw [iha l fun u v hu hv => hi u v (hu.imp id .inl) (hv.imp id .inl), ihb (varsL a l) fun u v hu hv => by
      refine hi u v ?_ ?_
      · rcases hu with hu | hu
        · exact ((mem_varsL a l u).1 hu).imp id .inl
        · exact .inr (.inr hu)
      · rcases hv with hv | hv
        · exact ((mem_varsL a l v).1 hv).imp id .inl
        · exact .inr (.inr hv)]
    rfl
/-- The one text does not hang on how variables are numbered. -/
theorem canon_ren (f : Nat → Nat) (t : Ty) (hi : ∀ u v, t.has u → t.has v → f u = f v → u = v) : canon (t.ren f) = canon t := by
  have hv := varsL_ren f t [] fun u v hu hv => hi u v (hu.resolve_left (by simp)) (hv.resolve_left (by simp))
  simp only [List.map_nil] at hv
  unfold canon
  rw [shown_ren, hv]
  refine shown_congr fun v h => ?_
  have hm : ∀ u ∈ varsL t [], t.has u := fun u hu => ((mem_varsL t [] u).1 hu).resolve_left (by simp)
  rw [idxOf_map f (varsL t []) v fun u hu e => hi u v (hm u hu) h e]

/-- Texts tell types apart. -/
theorem shown_inj (nm : Nat → Bytes) (a b : Ty) (hn : ∀ v, a.has v ∨ b.has v → NameOK (nm v)) (hi : ∀ u v, (a.has u ∨ b.has u) → (a.has v ∨ b.has v) → nm u = nm v → u = v) (h : shown nm a = shown nm b) : a = b := by
  have ha := (back_all nm a fun v hv => hn v (.inl hv)).2 (shown nm a) 0 [] [] (3 * a.size + 1 + (3 * b.size + 1)) (by simp) (by simp) (fun c h => by simp at h) (by rw [tk_end (by simp) (by simp)]; decide) (by omega)
  have hb := (back_all nm b fun v hv => hn v (.inr hv)).2 (shown nm b) 0 [] [] (3 * a.size + 1 + (3 * b.size + 1)) (by simp) (by simp) (fun c h => by simp at h) (by rw [tk_end (by simp) (by simp)]; decide) (by omega)
  rw [h, hb] at ha
  simp only [Option.some.injEq, Except.ok.injEq, Prod.mk.injEq] at ha
  have he := ha.1
  have hea := back_eq nm a [] fun u v hu hv => hi u v (.inl (hu.resolve_left (by simp))) (.inl (hv.resolve_left (by simp)))
  have heb := back_eq nm b [] fun u v hu hv => hi u v (.inr (hu.resolve_left (by simp))) (.inr (hv.resolve_left (by simp)))
  simp only [List.map_nil] at hea heb
  rw [hea, heb] at he
  simp only [Prod.mk.injEq] at he
  obtain ⟨h1, h2⟩ := he
  have hma : ∀ u, u ∈ varsL a [] ↔ a.has u := fun u => by simp [mem_varsL]
  have hmb : ∀ u, u ∈ varsL b [] ↔ b.has u := fun u => by simp [mem_varsL]
  have hvs : varsL b [] = varsL a [] := by
    have : ∀ l m : List Nat, (∀ u v, (u ∈ l ∨ u ∈ m) → (v ∈ l ∨ v ∈ m) → nm u = nm v → u = v) → l.map nm = m.map nm → l = m := by
      intro l
      induction l with
      | nil => intro m _ h; cases m with
        | nil => rfl
        | cons x m => simp at h
      | cons x l ih => intro m hi h; cases m with
        | nil => simp at h
        | cons y m =>
          simp only [List.map_cons, List.cons.injEq] at h
          rw [hi x y (by simp) (by simp) h.1, ih m (fun u v hu hv => hi u v (hu.imp (by simp +contextual) (by simp +contextual)) (hv.imp (by simp +contextual) (by simp +contextual))) h.2]
    refine this _ _ (fun u v hu hv => hi u v ?_ ?_) h2
    · exact (hu.imp (hmb u).1 (hma u).1).symm
    · exact (hv.imp (hmb v).1 (hma v).1).symm
  rw [hvs] at h1
  have hre : ∀ (l : List Nat) (t u : Ty), (∀ v, t.has v → v ∈ l) → (∀ v, u.has v → v ∈ l) → (t.ren fun v => l.idxOf v) = (u.ren fun v => l.idxOf v) → t = u := by
    intro l t
    induction t with
    | var n =>
      intro u h1 h2 h
      cases u <;> simp only [Ty.ren, Ty.put, reduceCtorEq, Ty.var.injEq] at h
      rename_i m
      have hn := List.idxOf_lt_length_of_mem (h1 n rfl)
      have hm := List.idxOf_lt_length_of_mem (h2 m rfl)
      have e1 := List.getElem_idxOf hn
      have e2 := List.getElem_idxOf hm
      simp only [h] at e1
      rw [← e1, e2]
    | int => intro u _ _ h; cases u <;> simp [Ty.ren, Ty.put] at h ⊢
    | bool => intro u _ _ h; cases u <;> simp [Ty.ren, Ty.put] at h ⊢
    | list a ih =>
      intro u h1 h2 h
      cases u <;> simp only [Ty.ren, Ty.put, reduceCtorEq, Ty.list.injEq] at h
      rename_i u
      rw [ih u h1 h2 h]
    | pair a b iha ihb =>
      intro u h1 h2 h
      cases u <;> simp only [Ty.ren, Ty.put, reduceCtorEq, Ty.pair.injEq] at h
      rw [iha _ (fun v hv => h1 v (.inl hv)) (fun v hv => h2 v (.inl hv)) h.1, ihb _ (fun v hv => h1 v (.inr hv)) (fun v hv => h2 v (.inr hv)) h.2]
    | arr a b iha ihb =>
      intro u h1 h2 h
      cases u <;> simp only [Ty.ren, Ty.put, reduceCtorEq, Ty.arr.injEq] at h
      rw [iha _ (fun v hv => h1 v (.inl hv)) (fun v hv => h2 v (.inl hv)) h.1, ihb _ (fun v hv => h1 v (.inr hv)) (fun v hv => h2 v (.inr hv)) h.2]
  exact (hre _ b a (fun v hv => (hvs ▸ (hmb v).2 hv)) (fun v hv => (hma v).2 hv) h1).symm
end Go.Proofs.YtpbplpnifjbkoabGreatDoor

namespace Go.Proofs.YtpbplpnifjbkoabGreatDoor

/-! ### Names that were read -/
theorem spanLen_all (p : UInt8 → Bool) : ∀ l : Bytes, ∀ c ∈ l.take (spanLen p l), p c = true
  | [], c, h => by simp [spanLen] at h
  | d :: l, c, h => by
    by_cases hd : p d = true
    · rw [spanLen_pos hd, List.take_succ_cons] at h
      rcases List.mem_cons.1 h with rfl | h
      · exact hd
      · exact spanLen_all p l c h
    · rw [spanLen_cons_no (eq_false_of_ne_true hd)] at h
      simp at h
def TOK (ts : List Tok) : Prop := ∀ t ∈ ts, t.kind = .name → NameOK t.text
theorem tokAt_name (i : Nat) (l : Bytes) (h : (tokAt kwTyp i l).1.kind = .name) : NameOK (tokAt kwTyp i l).1.text := by
  cases l with
  | nil => simp [tokAt] at h
  | cons c r =>
    unfold tokAt at h ⊢
    simp only at h ⊢
    by_cases h1 : isSmall c = true
    · rw [if_pos h1] at h ⊢
      have hp : spanLen isAlnum (c :: r) = spanLen isAlnum r + 1 := spanLen_pos (by simp [isAlnum, h1])
      have hall := spanLen_all isAlnum (c :: r)
      split at h
      · simp at h
      · rename_i h8
        rw [if_neg h8]
        simp only at h ⊢
        refine ⟨⟨c, r.take (spanLen isAlnum r), by rw [hp, List.take_succ_cons], h1⟩, hall, by rw [List.length_take]; omega, ?_⟩
        cases hk : kwTyp ((c :: r).take (spanLen isAlnum (c :: r))) with
        | none => rfl
        | some k =>
          rw [hk] at h
          simp only [Option.getD_some] at h
          subst h
          unfold kwTyp at hk
          split at hk
          · cases hk
          · split at hk <;> cases hk
    rw [if_neg h1] at h ⊢
    by_cases h2 : isDigit c = true
    · rw [if_pos h2] at h
      split at h <;> simp at h
    rw [if_neg h2] at h ⊢
    by_cases h3 : c = 45 ∧ r.head? = some 62
    · rw [if_pos h3] at h
      simp at h
    rw [if_neg h3] at h ⊢
    split at h
    · rename_i k hk
      simp only at h
      subst h
      unfold signKind at hk
      repeat' (split at hk; · cases hk)
      cases hk
    · simp at h
theorem toks_TOK (s : Bytes) : ∀ n i, TOK (toks kwTyp s n i) := by
  intro n
  induction n with
  | zero => intro i t h; simp [toks] at h
  | succ n ih =>
    intro i
    have h1 : (stepTok kwTyp i (s.drop i)).1.kind = .name → NameOK (stepTok kwTyp i (s.drop i)).1.text := tokAt_name _ _
    unfold toks
    simp only
    split
    · intro t h
      simp at h
      subst h
      exact h1
    · intro t h
      rcases List.mem_cons.1 h with rfl | h
      · exact h1
      · exact ih _ t h
theorem TOK.adv {ts : List Tok} (h : TOK ts) : TOK (adv ts) := by
  match ts, h with
  | [], h => exact h
  | [t], h => exact h
  | t :: u :: r, h => exact fun x hx => h x (by simp [Go.Proofs.YtpbplpnifjbkoabGreatDoor.adv] at hx; simp [hx])
theorem TOK.head {ts : List Tok} (h : TOK ts) (hk : headKind ts = .name) : NameOK (headText ts) := by
  cases ts with
  | nil => simp [headKind] at hk
  | cons t r => exact h t (by simp) hk
theorem bind_inv {α β : Type} {r : Res α} {f : α → List Tok → Res β} {y : β × List Tok} (h : r.bind f = some (.ok y)) : ∃ a ts, r = some (.ok (a, ts)) ∧ f a ts = some (.ok y) := by
  match r, h with
  | some (.ok (a, ts)), h => exact ⟨a, ts, rfl, h⟩
theorem want_inv {k : Kind} {ts ts' : List Tok} {x : Bytes} (h : want k ts = some (.ok (x, ts'))) : headKind ts = k ∧ x = headText ts ∧ ts' = adv ts := by
  unfold want at h
  split at h
  · rename_i hk
    simp only [Option.some.injEq, Except.ok.injEq, Prod.mk.injEq] at h
    exact ⟨hk, h.1.symm, h.2.symm⟩
  · cases h
/-- Variables come in order; each name is one. -/
structure Num (ns : List Bytes) (q : Ty × List Bytes) (ts' : List Tok) : Prop where
  tok : TOK ts'
  vars : varsL q.1 (List.range ns.length) = List.range q.2.length
  names : ∀ x ∈ q.2, x ∈ ns ∨ NameOK x
theorem num_all : ∀ n,
    (∀ ns ts q ts', TOK ts → pWhole n ns ts = some (.ok (q, ts')) → Num ns q ts') ∧
    (∀ ns ts q ts', TOK ts → pOne n ns ts = some (.ok (q, ts')) → Num ns q ts') := by
  intro n
  induction n with
  | zero => exact ⟨fun ns ts q ts' _ h => by simp [pWhole] at h, fun ns ts q ts' _ h => by simp [pOne] at h⟩
  | succ n ih =>
    obtain ⟨ihW, ihO⟩ := ih
    refine ⟨fun ns ts q ts' ht h => ?_, fun ns ts q ts' ht h => ?_⟩
    · unfold pWhole at h
      obtain ⟨q1, t1, h1, h⟩ := bind_inv h
      have n1 := ihO _ _ _ _ ht h1
      split at h
      · obtain ⟨q2, t2, h2, h⟩ := bind_inv h
        have n2 := ihW _ _ _ _ n1.tok.adv h2
        simp only [Option.some.injEq, Except.ok.injEq, Prod.mk.injEq] at h
        obtain ⟨rfl, rfl⟩ := h
        exact ⟨n2.tok, by simp only [varsL, n1.vars, n2.vars], fun x hx => (n2.names x hx).elim (n1.names x) .inr⟩
      · simp only [Option.some.injEq, Except.ok.injEq, Prod.mk.injEq] at h
        obtain ⟨rfl, rfl⟩ := h
        exact n1
    · unfold pOne at h
      split at h
      · simp only [Option.some.injEq, Except.ok.injEq, Prod.mk.injEq] at h
        obtain ⟨rfl, rfl⟩ := h
        exact ⟨ht.adv, rfl, fun x hx => .inl hx⟩
      split at h
      · simp only [Option.some.injEq, Except.ok.injEq, Prod.mk.injEq] at h
        obtain ⟨rfl, rfl⟩ := h
        exact ⟨ht.adv, rfl, fun x hx => .inl hx⟩
      split at h
      · obtain ⟨q1, t1, h1, h⟩ := bind_inv h
        have n1 := ihW _ _ _ _ ht.adv h1
        obtain ⟨_, t2, h2, h⟩ := bind_inv h
        obtain ⟨_, _, rfl⟩ := want_inv h2
        simp only [Option.some.injEq, Except.ok.injEq, Prod.mk.injEq] at h
        obtain ⟨rfl, rfl⟩ := h
        exact ⟨n1.tok.adv, n1.vars, n1.names⟩
      split at h
      · obtain ⟨q1, t1, h1, h⟩ := bind_inv h
        have n1 := ihW _ _ _ _ ht.adv h1
        split at h
        · obtain ⟨q2, t2, h2, h⟩ := bind_inv h
          have n2 := ihW _ _ _ _ n1.tok.adv h2
          obtain ⟨_, t3, h3, h⟩ := bind_inv h
          obtain ⟨_, _, rfl⟩ := want_inv h3
          simp only [Option.some.injEq, Except.ok.injEq, Prod.mk.injEq] at h
          obtain ⟨rfl, rfl⟩ := h
          exact ⟨n2.tok.adv, by simp only [varsL, n1.vars, n2.vars], fun x hx => (n2.names x hx).elim (n1.names x) .inr⟩
        · obtain ⟨_, t3, h3, h⟩ := bind_inv h
          obtain ⟨_, _, rfl⟩ := want_inv h3
          simp only [Option.some.injEq, Except.ok.injEq, Prod.mk.injEq] at h
          obtain ⟨rfl, rfl⟩ := h
          exact ⟨n1.tok.adv, n1.vars, n1.names⟩
      · obtain ⟨x, t1, h1, h⟩ := bind_inv h
        obtain ⟨hk, rfl, rfl⟩ := want_inv h1
        simp only [Option.some.injEq, Except.ok.injEq, Prod.mk.injEq] at h
        obtain ⟨rfl, rfl⟩ := h
        have hx := ht.head hk
        refine ⟨ht.adv, ?_, fun y hy => ?_⟩
        · simp only [varsL, addName, List.mem_range]
          by_cases hm : headText ts ∈ ns
          · rw [if_pos (List.idxOf_lt_length_of_mem hm), if_pos hm]
          · rw [if_neg (by rw [List.idxOf_eq_length hm]; omega), if_neg hm, List.idxOf_eq_length hm]
            simp [List.range_succ]
        · simp only [addName] at hy
          split at hy
          · exact .inl hy
          · rcases List.mem_append.1 hy with hy | hy
            · exact .inl hy
            · simp at hy; subst hy; exact .inr hx

/-- What is known of a type that was read. -/
structure ReadOK (t : Ty) (ns : List Bytes) : Prop where
  size : t.size ≤ 120
  few : ns.length ≤ 301
  nodup : ns.Nodup
  vars : varsL t [] = List.range ns.length
  names : ∀ x ∈ ns, NameOK x
theorem tokens_len (kw : Bytes → Option Kind) (s : Bytes) : ∀ n i, (toks kw s n i).length ≤ n := by
  intro n
  induction n with
  | zero => intro i; simp [toks]
  | succ n ih =>
    intro i
    unfold toks
    simp only
    split
    · simp
    · have := ih (stepTok kw i (s.drop i)).2
      simp; omega
theorem wfT_toks (s : Bytes) : ∀ n i, i ≤ s.length → s.length - i < n → wfT (toks kwTyp s n i) := by
  intro n
  induction n with
  | zero => intro i hi hn; omega
  | succ n ih =>
    intro i hi hn
    unfold toks
    simp only
    by_cases hl : last (stepTok kwTyp i (s.drop i)).1 = true
    · rw [if_pos hl]; exact hl
    · rw [if_neg hl]
      obtain ⟨h1, h2⟩ := step_fit hi
      have h3 := h2 (eq_false_of_ne_true hl)
      have h4 := ih _ h1 (by omega)
      cases hq : toks kwTyp s n (stepTok kwTyp i (s.drop i)).2 with
      | nil => rw [hq] at h4; exact h4.elim
      | cons a b => rw [hq] at h4; exact ⟨eq_false_of_ne_true hl, h4⟩
theorem readTyp_ok {s : Bytes} {t : Ty} {ns : List Bytes} (h : readTyp s = .ok (t, ns)) : ReadOK t ns := by
  unfold readTyp at h
  split at h
  · cases h
  rename_i hl
  cases hr : (pWhole (4 * s.length + 8) [] (tokens kwTyp s)).bind (fun q ts => (want .eof ts).bind fun _ _ => some (.ok (q, []))) with
  | none => rw [hr] at h; cases h
  | some res =>
    rw [hr] at h
    rcases res with p | ⟨q, ts⟩
    · cases h
    · simp only at h
      split at h
      · cases h
      rename_i hs
      cases h
      obtain ⟨q1, t1, h1, h⟩ := bind_inv hr
      obtain ⟨_, _, _, h⟩ := bind_inv h
      simp only [Option.some.injEq, Except.ok.injEq, Prod.mk.injEq] at h
      obtain ⟨rfl, _⟩ := h
      have hn := (num_all _).1 _ _ _ _ (toks_TOK s _ _) h1
      have hlen := tokens_len kwTyp s (s.length + 1) 0
      have hw : wfT (tokens kwTyp s) := wfT_toks s _ _ (Nat.zero_le _) (by omega)
      obtain ⟨res, e1, e2⟩ := (fuelT_all (4 * s.length + 8)).1 [] (tokens kwTyp s) hw (by unfold tokens; omega)
      rw [h1] at e1
      cases e1
      obtain ⟨_, ok⟩ := e2 _ _ rfl
      have hf := ok.few
      refine ⟨by simpa using hs, ?_, ok.nodup (by simp), hn.vars, fun x hx => (hn.names x hx).resolve_left (by simp)⟩
      have hf' : ns.length + t1.length ≤ 0 + (toks kwTyp s (s.length + 1) 0).length := hf
      omega

/-! ### A type matched against another -/
def matchT : Ty → Ty → List (Nat × Ty) → Option (List (Nat × Ty))
  | .var v, b, g => match g.lookup v with
    | some u => if u = b then some g else none
    | none => some ((v, b) :: g)
  | .int, .int, g => some g
  | .bool, .bool, g => some g
  | .list a, .list b, g => matchT a b g
  | .pair a c, .pair b d, g => (matchT a b g).bind fun g => matchT c d g
  | .arr a c, .arr b d, g => (matchT a b g).bind fun g => matchT c d g
  | _, _, _ => none
/-- Matched against what comes of putting types for variables. -/
theorem matchT_put (σ : Nat → Ty) (t : Ty) : ∀ g : List (Nat × Ty), (∀ v u, g.lookup v = some u → u = σ v) → ∃ g', matchT t (t.put σ) g = some g' ∧ (∀ v u, g'.lookup v = some u → u = σ v) ∧
    (∀ v, (∃ u, g'.lookup v = some u) ↔ (∃ u, g.lookup v = some u) ∨ t.has v) := by
  induction t with
  | var n =>
    intro g hg
    simp only [matchT, Ty.put]
    cases h : g.lookup n with
    | some u =>
      have := hg n u h
      subst this
      refine ⟨g, by simp, hg, fun v => ⟨.inl, ?_⟩⟩
      rintro (h' | rfl)
      · exact h'
      · exact ⟨_, h⟩
    | none =>
      refine ⟨(n, σ n) :: g, rfl, fun v u hu => ?_, fun v => ?_⟩
      · rw [List.lookup_cons] at hu
        by_cases hv : v = n
        · subst hv; simpa using hu.symm
        · rw [beq_false_of_ne hv] at hu; exact hg v u hu
      · rw [List.lookup_cons]
        by_cases hv : v = n
        · subst hv; simp [Ty.has]
        · rw [beq_false_of_ne hv]; simp [Ty.has, hv]
  | int => intro g hg; exact ⟨g, rfl, hg, fun v => by simp [Ty.has]⟩
  | bool => intro g hg; exact ⟨g, rfl, hg, fun v => by simp [Ty.has]⟩
  | list a ih => exact ih
  | pair a b iha ihb =>
    intro g hg
    obtain ⟨g1, h1, h2, h3⟩ := iha g hg
    obtain ⟨g2, k1, k2, k3⟩ := ihb g1 h2
    exact ⟨g2, by simp only [matchT, Ty.put, h1, Option.bind_some, k1], k2, fun v => by rw [k3, h3, Ty.has, or_assoc]⟩
  | arr a b iha ihb =>
    intro g hg
    obtain ⟨g1, h1, h2, h3⟩ := iha g hg
    obtain ⟨g2, k1, k2, k3⟩ := ihb g1 h2
    exact ⟨g2, by simp only [matchT, Ty.put, h1, Option.bind_some, k1], k2, fun v => by rw [k3, h3, Ty.has, or_assoc]⟩
/-- Which variables are met. -/
theorem matchT_vars (t : Ty) : ∀ (b : Ty) (g g' : List (Nat × Ty)), matchT t b g = some g' → ∀ v, (∃ u, g'.lookup v = some u) ↔ (∃ u, g.lookup v = some u) ∨ t.has v := by
  induction t with
  | var n =>
    intro b g g' h v
    simp only [matchT] at h
    cases hl : g.lookup n with
    | some u =>
      rw [hl] at h
      simp only at h
      split at h
      · cases h
        refine ⟨.inl, ?_⟩
        rintro (h' | rfl)
        · exact h'
        · exact ⟨_, hl⟩
      · cases h
    | none =>
      rw [hl] at h
      cases h
      rw [List.lookup_cons]
      by_cases hv : v = n
      · subst hv; simp [Ty.has]
      · rw [beq_false_of_ne hv]; simp [Ty.has, hv]
  | int => intro b g g' h v; cases b <;> simp [matchT] at h; subst h; simp [Ty.has]
  | bool => intro b g g' h v; cases b <;> simp [matchT] at h; subst h; simp [Ty.has]
  | list a ih => intro b g g' h v; cases b <;> simp only [matchT, reduceCtorEq] at h; exact ih _ _ _ h v
  | pair a b iha ihb =>
    intro b' g g' h v
    cases b' <;> simp only [matchT, reduceCtorEq] at h
    obtain ⟨g1, h1, h2⟩ := Option.bind_eq_some_iff.1 h
    rw [ihb _ _ _ h2, iha _ _ _ h1, Ty.has, or_assoc]
  | arr a b iha ihb =>
    intro b' g g' h v
    cases b' <;> simp only [matchT, reduceCtorEq] at h
    obtain ⟨g1, h1, h2⟩ := Option.bind_eq_some_iff.1 h
    rw [ihb _ _ _ h2, iha _ _ _ h1, Ty.has, or_assoc]
end Go.Proofs.YtpbplpnifjbkoabGreatDoor

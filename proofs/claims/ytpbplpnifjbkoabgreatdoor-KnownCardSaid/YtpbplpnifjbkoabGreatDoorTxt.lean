/-
  The plain model: the one text of an expression; representation of expressions in the program's memory.
-/
import Derived.Test.YtpbplpnifjbkoabGreatDoorTokx
import Derived.Test.YtpbplpnifjbkoabGreatDoorRw
namespace Go.Proofs.YtpbplpnifjbkoabGreatDoor

/-- Brackets about a function that is applied. -/
def bareFun : Exp → Bool
  | .name _ _ | .num _ _ | .pair _ _ _ | .app _ _ _ => true
  | _ => false
/-- None about what it is applied to. -/
def bareArg : Exp → Bool
  | .name _ _ | .num _ _ | .pair _ _ _ => true
  | _ => false
def isFin : Exp → Bool
  | .fin _ => true
  | _ => false

def par (l : Bytes) : Bytes := [40] ++ l ++ [41]

/-- The one text. -/
def textE : Exp → Bytes
  | .name _ s => s
  | .num _ s => s
  | .lam _ x b => [102, 117, 110, 32] ++ x ++ [32, 45, 62, 32] ++ textE b
  | .app _ f a => (if bareFun f then textE f else par (textE f)) ++ [32] ++ (if bareArg a then textE a else par (textE a))
  | .pair _ a b => [40] ++ textE a ++ [44, 32] ++ textE b ++ [41]
  | .letin _ x a b => [108, 101, 116, 32] ++ x ++ [32, 61, 32] ++ textE a ++ [32, 105, 110, 32] ++ textE b
  | .recr _ g => [108, 101, 116, 32, 114, 101, 99, 32] ++ textE g
  | .bnd x a g => x ++ [32, 61, 32] ++ textE a ++ (if isFin g then [] else [32, 97, 110, 100, 32]) ++ textE g
  | .fin b => [32, 105, 110, 32] ++ textE b
  | .cond _ c a b => [105, 102, 32] ++ textE c ++ [32, 116, 104, 101, 110, 32] ++ textE a ++ [32, 101, 108, 115, 101, 32] ++ textE b

/-- What a group binds: names, bodies; what it is for. -/
def gNames : Exp → List Bytes
  | .bnd x _ g => x :: gNames g
  | _ => []
def gBodies : Exp → List Exp
  | .bnd _ a g => a :: gBodies g
  | _ => []
def gFor : Exp → Exp
  | .bnd _ _ g => gFor g
  | .fin b => b
  | e => e
/-- A group as the parser makes it: one binding at least, 'fin' at the end. -/
def isGrp : Exp → Bool
  | .bnd _ _ (.fin _) => true
  | .bnd _ _ g => isGrp g
  | _ => false
end Go.Proofs.YtpbplpnifjbkoabGreatDoor

namespace Go.Proofs.YtpbplpnifjbkoabGreatDoor

def isBnd : Exp → Bool
  | .bnd _ _ _ => true
  | _ => false
/-- Expressions (true: a group's names, bodies and what it is for). -/
def wfE : Bool → Exp → Bool
  | false, .name _ _ => true
  | false, .num _ _ => true
  | false, .lam _ _ b => wfE false b
  | false, .app _ f a => wfE false f && wfE false a
  | false, .pair _ f a => wfE false f && wfE false a
  | false, .letin _ _ f a => wfE false f && wfE false a
  | false, .cond _ c f a => wfE false c && wfE false f && wfE false a
  | false, .recr _ g => isBnd g && wfE true g
  | false, .bnd _ _ _ => false
  | false, .fin _ => false
  | true, .bnd _ a g => wfE false a && wfE true g
  | true, .fin b => wfE false b
  | true, _ => false

/-- A list of tokens: the last one alone ends it. -/
def wfT : List Tok → Prop
  | [] => False
  | [t] => last t = true
  | t :: r => last t = false ∧ wfT r

theorem TL.wf {kw : Bytes → Option Kind} {l : Bytes} {h : Hand} {ts : List Tok} (t : TL kw l h ts) : wfT ts := by
  induction t with
  | last h hl => exact hl
  | more h ts hl ht ih => cases ht <;> exact ⟨hl, ih⟩

/-- How much text tokens give. -/
def wt : List Tok → Nat
  | [] => 0
  | t :: r => t.text.length + 32 + wt r

theorem adv_lt {ts : List Tok} (h : wfT ts) (hk : headKind ts ≠ .eof) (hb : headKind ts ≠ .bad) : wfT (adv ts) ∧ (adv ts).length + 1 = ts.length ∧ wt (adv ts) + (headText ts).length + 32 = wt ts := by
  match ts, h with
  | [t], h =>
    exfalso
    have h : last t = true := h
    unfold last at h
    simp only [headKind] at hk hb
    cases hq : t.kind <;> simp_all
  | t :: u :: r, h =>
    exact ⟨h.2, rfl, by show wt (u :: r) + t.text.length + 32 = t.text.length + 32 + wt (u :: r); omega⟩
theorem adv_kind {ts : List Tok} {k : Kind} (h : wfT ts) (hk : headKind ts = k) (h1 : k ≠ .eof) (h2 : k ≠ .bad) : wfT (adv ts) ∧ (adv ts).length + 1 = ts.length ∧ wt (adv ts) + (headText ts).length + 32 = wt ts :=
  adv_lt h (hk ▸ h1) (hk ▸ h2)
theorem wfT.pos {ts : List Tok} (h : wfT ts) : 1 ≤ ts.length := by
  cases ts with
  | nil => exact h.elim
  | cons _ _ => simp

/-- There is an outcome, and of it all that is wanted. -/
def Ok {α : Type} (r : Res α) (P : α → List Tok → Prop) : Prop := ∃ res, r = some res ∧ ∀ a ts, res = .ok (a, ts) → wfT ts ∧ P a ts

theorem Ok.err {α : Type} {p : Nat} {P : α → List Tok → Prop} : Ok (some (.error p) : Res α) P := ⟨_, rfl, fun a ts h => by cases h⟩
theorem Ok.ret {α : Type} {a : α} {ts : List Tok} {P : α → List Tok → Prop} (hw : wfT ts) (h : P a ts) : Ok (some (.ok (a, ts)) : Res α) P := ⟨_, rfl, fun a' ts' h' => by cases h'; exact ⟨hw, h⟩⟩
theorem Ok.bind {α β : Type} {r : Res α} {f : α → List Tok → Res β} {P : α → List Tok → Prop} {Q : β → List Tok → Prop} (h : Ok r P) (hf : ∀ a ts, wfT ts → P a ts → Ok (f a ts) Q) : Ok (r.bind f) Q := by
  obtain ⟨res, rfl, h⟩ := h
  rcases res with p | ⟨a, ts⟩
  · exact Ok.err
  · obtain ⟨h1, h2⟩ := h a ts rfl
    exact hf a ts h1 h2
theorem Ok.want {k : Kind} {ts : List Tok} (h : wfT ts) (h1 : k ≠ .eof) (h2 : k ≠ .bad) : Ok (want k ts) (fun x ts' => ts'.length + 1 = ts.length ∧ wt ts' + x.length + 32 = wt ts) := by
  unfold Go.Proofs.YtpbplpnifjbkoabGreatDoor.want
  split
  · rename_i hk; exact Ok.ret (adv_kind h hk h1 h2).1 (adv_kind h hk h1 h2).2
  · exact Ok.err

theorem len_if (b : Bool) (l : Bytes) : (if b = true then l else par l).length ≤ l.length + 2 := by
  cases b <;> simp [par]

/-- How many parts. -/
def esz : Exp → Nat
  | .name _ _ => 1
  | .num _ _ => 1
  | .lam _ _ b => esz b + 1
  | .app _ f a => esz f + esz a + 1
  | .pair _ f a => esz f + esz a + 1
  | .letin _ _ f a => esz f + esz a + 1
  | .recr _ g => esz g + 1
  | .bnd _ a g => esz a + esz g + 1
  | .fin b => esz b + 1
  | .cond _ c f a => esz c + esz f + esz a + 1

theorem fuel_all : ∀ n,
    (∀ ts, wfT ts → 2 * ts.length ≤ n → Ok (pExp n ts) (fun x ts' => ts'.length < ts.length ∧ (textE x).length + wt ts' + 16 ≤ wt ts ∧ wfE false x = true)) ∧
    (∀ ts, wfT ts → 2 * ts.length ≤ n + 1 → Ok (pAtom n ts) (fun x ts' => ts'.length < ts.length ∧ (textE x).length + wt ts' + 24 ≤ wt ts ∧ wfE false x = true)) ∧
    (∀ p x ts, wfT ts → 2 * ts.length ≤ n → 1 ≤ n → wfE false x = true → Ok (pApps n p x ts) (fun x' ts' => ts'.length ≤ ts.length ∧ (textE x').length + wt ts' ≤ wt ts + (textE x).length ∧ wfE false x' = true)) ∧
    (∀ l ts, wfT ts → 2 * ts.length ≤ n → Ok (pRec n l ts) (fun x ts' => ts'.length < ts.length ∧ (textE x).length + wt ts' + 16 ≤ wt ts ∧ isBnd x = true ∧ wfE true x = true)) := by
  intro n
  induction n with
  | zero =>
    refine ⟨fun ts h hn => ?_, fun ts h hn => ?_, fun p x ts h hn h1 => ?_, fun l ts h hn => ?_⟩
    all_goals (have := h.pos; omega)
  | succ n ih =>
    obtain ⟨ihE, ihA, ihP, ihR⟩ := ih
    refine ⟨fun ts h hn => ?_, fun ts h hn => ?_, fun p x ts h hn h1 hx => ?_, fun l ts h hn => ?_⟩
    · have hp := h.pos
      unfold pExp
      simp only
      by_cases hf : headKind ts = .kFun
      · rw [if_pos hf]
        obtain ⟨a1, a2, a3⟩ := adv_kind h hf (by decide) (by decide)
        refine (Ok.want a1 (by decide) (by decide)).bind fun x t1 w1 ⟨b1, b2⟩ => (Ok.want w1 (by decide) (by decide)).bind fun _ t2 w2 ⟨c1, c2⟩ => (ihE t2 w2 (by omega)).bind fun b t3 w3 ⟨d1, d2, d3⟩ => Ok.ret w3 ⟨by omega, ?_, d3⟩
        simp [textE]; omega
      rw [if_neg hf]
      by_cases hf : headKind ts = .kIf
      · rw [if_pos hf]
        obtain ⟨a1, a2, a3⟩ := adv_kind h hf (by decide) (by decide)
        refine (ihE _ a1 (by omega)).bind fun c t1 w1 ⟨b1, b2, b3⟩ => (Ok.want w1 (by decide) (by decide)).bind fun _ t2 w2 ⟨c1, c2⟩ => (ihE t2 w2 (by omega)).bind fun b t3 w3 ⟨d1, d2, d3⟩ =>
          (Ok.want w3 (by decide) (by decide)).bind fun _ t4 w4 ⟨e1, e2⟩ => (ihE t4 w4 (by omega)).bind fun b t5 w5 ⟨f1, f2, f3⟩ => Ok.ret w5 ⟨by omega, ?_, by simp [wfE, b3, d3, f3]⟩
        simp [textE]; omega
      rw [if_neg hf]
      by_cases hf : headKind ts = .kLet
      · rw [if_pos hf]
        obtain ⟨a1, a2, a3⟩ := adv_kind h hf (by decide) (by decide)
        by_cases hr : headKind (adv ts) = .kRec
        · rw [if_pos hr]
          obtain ⟨b1, b2, b3⟩ := adv_kind a1 hr (by decide) (by decide)
          refine (ihR [] _ b1 (by omega)).bind fun g t1 w1 ⟨c1, c2, c3, c4⟩ => Ok.ret w1 ⟨by omega, ?_, by simp [wfE, c3, c4]⟩
          simp [textE]; omega
        · rw [if_neg hr]
          refine (Ok.want a1 (by decide) (by decide)).bind fun x t1 w1 ⟨b1, b2⟩ => (Ok.want w1 (by decide) (by decide)).bind fun _ t2 w2 ⟨c1, c2⟩ => (ihE t2 w2 (by omega)).bind fun b t3 w3 ⟨d1, d2, d3⟩ =>
            (Ok.want w3 (by decide) (by decide)).bind fun _ t4 w4 ⟨e1, e2⟩ => (ihE t4 w4 (by omega)).bind fun b t5 w5 ⟨f1, f2, f3⟩ => Ok.ret w5 ⟨by omega, ?_, by simp [wfE, d3, f3]⟩
          simp [textE]; omega
      rw [if_neg hf]
      refine (ihA ts h (by omega)).bind fun x t1 w1 ⟨b1, b2, b3⟩ => ?_
      obtain ⟨res, hres, hP⟩ := ihP (headPos ts) x t1 w1 (by omega) (by omega) b3
      refine ⟨res, hres, fun a t2 e => ?_⟩
      obtain ⟨c0, c1, c2, c3⟩ := hP a t2 e
      exact ⟨c0, by omega, by omega, c3⟩
    · have hp := h.pos
      unfold pAtom
      simp only
      by_cases hf : headKind ts = .name
      · rw [if_pos hf]
        obtain ⟨a1, a2, a3⟩ := adv_kind h hf (by decide) (by decide)
        exact Ok.ret a1 ⟨by omega, by simp [textE]; omega, rfl⟩
      rw [if_neg hf]
      by_cases hf : headKind ts = .num
      · rw [if_pos hf]
        obtain ⟨a1, a2, a3⟩ := adv_kind h hf (by decide) (by decide)
        exact Ok.ret a1 ⟨by omega, by simp [textE]; omega, rfl⟩
      rw [if_neg hf]
      refine (Ok.want h (by decide) (by decide)).bind fun _ t1 w1 ⟨b1, b2⟩ => (ihE t1 w1 (by omega)).bind fun x t2 w2 ⟨c1, c2, c3⟩ => ?_
      by_cases hc : headKind t2 = .comma
      · rw [if_pos hc]
        obtain ⟨a1, a2, a3⟩ := adv_kind w2 hc (by decide) (by decide)
        refine (ihE _ a1 (by omega)).bind fun y t3 w3 ⟨d1, d2, d3⟩ => (Ok.want w3 (by decide) (by decide)).bind fun _ t4 w4 ⟨e1, e2⟩ => Ok.ret w4 ⟨by omega, ?_, by simp [wfE, c3, d3]⟩
        simp [textE]; omega
      · rw [if_neg hc]
        exact (Ok.want w2 (by decide) (by decide)).bind fun _ t4 w4 ⟨e1, e2⟩ => Ok.ret w4 ⟨by omega, by omega, c3⟩
    · have hp := h.pos
      unfold pApps
      by_cases hs : startsAtom (headKind ts) = true
      · rw [if_pos hs]
        refine (ihA ts h (by omega)).bind fun a t1 w1 ⟨b1, b2, b3⟩ => ?_
        obtain ⟨res, hres, hP⟩ := ihP p (.app p x a) t1 w1 (by omega) (by omega) (by simp [wfE, hx, b3])
        refine ⟨res, hres, fun a' t2 e => ?_⟩
        obtain ⟨c0, c1, c2, c3⟩ := hP a' t2 e
        refine ⟨c0, by omega, ?_, c3⟩
        have h1 := len_if (bareFun x) (textE x)
        have h2 := len_if (bareArg a) (textE a)
        simp only [textE, List.length_append, List.length_cons, List.length_nil] at c2
        omega
      · rw [if_neg hs]
        exact Ok.ret h ⟨Nat.le_refl _, by omega, hx⟩
    · have hp := h.pos
      unfold pRec
      simp only
      refine (Ok.want h (by decide) (by decide)).bind fun x t1 w1 ⟨b1, b2⟩ => ?_
      by_cases hm : x ∈ l
      · rw [if_pos hm]; exact Ok.err
      rw [if_neg hm]
      refine (Ok.want w1 (by decide) (by decide)).bind fun _ t2 w2 ⟨c1, c2⟩ => (ihE t2 w2 (by omega)).bind fun a t3 w3 ⟨d1, d2, d3⟩ => ?_
      by_cases hc : headKind t3 = .kAnd
      · rw [if_pos hc]
        obtain ⟨a1, a2, a3⟩ := adv_kind w3 hc (by decide) (by decide)
        refine (ihR _ _ a1 (by omega)).bind fun g t4 w4 ⟨e1, e2, e3, e4⟩ => Ok.ret w4 ⟨by omega, ?_, rfl, by simp [wfE, d3, e4]⟩
        simp only [textE, List.length_append, List.length_cons, List.length_nil]
        have : (if isFin g = true then ([] : Bytes) else [32, 97, 110, 100, 32]).length ≤ 5 := by split <;> simp
        omega
      · rw [if_neg hc]
        refine (Ok.want w3 (by decide) (by decide)).bind fun _ t4 w4 ⟨e1, e2⟩ => (ihE t4 w4 (by omega)).bind fun b t5 w5 ⟨f1, f2, f3⟩ => Ok.ret w5 ⟨by omega, ?_, rfl, by simp [wfE, d3, f3]⟩
        simp [textE, isFin]; omega
theorem size_all : ∀ n,
    (∀ ts, wfT ts → 2 * ts.length ≤ n → Ok (pExp n ts) (fun x ts' => ts'.length < ts.length ∧ esz x + 2 * ts'.length ≤ 2 * ts.length)) ∧
    (∀ ts, wfT ts → 2 * ts.length ≤ n + 1 → Ok (pAtom n ts) (fun x ts' => ts'.length < ts.length ∧ esz x + 1 + 2 * ts'.length ≤ 2 * ts.length)) ∧
    (∀ p x ts, wfT ts → 2 * ts.length ≤ n → 1 ≤ n → Ok (pApps n p x ts) (fun x' ts' => ts'.length ≤ ts.length ∧ esz x' + 2 * ts'.length ≤ 2 * ts.length + esz x)) ∧
    (∀ l ts, wfT ts → 2 * ts.length ≤ n → Ok (pRec n l ts) (fun x ts' => ts'.length < ts.length ∧ esz x + 2 * ts'.length ≤ 2 * ts.length)) := by
  intro n
  induction n with
  | zero =>
    refine ⟨fun ts h hn => ?_, fun ts h hn => ?_, fun p x ts h hn h1 => ?_, fun l ts h hn => ?_⟩
    all_goals (have := h.pos; omega)
  | succ n ih =>
    obtain ⟨ihE, ihA, ihP, ihR⟩ := ih
    refine ⟨fun ts h hn => ?_, fun ts h hn => ?_, fun p x ts h hn h1 => ?_, fun l ts h hn => ?_⟩
    · have hp := h.pos
      unfold pExp
      simp only
      by_cases hf : headKind ts = .kFun
      · rw [if_pos hf]
        obtain ⟨a1, a2, a3⟩ := adv_kind h hf (by decide) (by decide)
        exact (Ok.want a1 (by decide) (by decide)).bind fun x t1 w1 ⟨b1, b2⟩ => (Ok.want w1 (by decide) (by decide)).bind fun _ t2 w2 ⟨c1, c2⟩ => (ihE t2 w2 (by omega)).bind fun b t3 w3 ⟨d1, d2⟩ => Ok.ret w3 ⟨by omega, by simp only [esz]; omega⟩
      rw [if_neg hf]
      by_cases hf : headKind ts = .kIf
      · rw [if_pos hf]
        obtain ⟨a1, a2, a3⟩ := adv_kind h hf (by decide) (by decide)
        exact (ihE _ a1 (by omega)).bind fun c t1 w1 ⟨b1, b2⟩ => (Ok.want w1 (by decide) (by decide)).bind fun _ t2 w2 ⟨c1, c2⟩ => (ihE t2 w2 (by omega)).bind fun b t3 w3 ⟨d1, d2⟩ =>
          (Ok.want w3 (by decide) (by decide)).bind fun _ t4 w4 ⟨e1, e2⟩ => (ihE t4 w4 (by omega)).bind fun b t5 w5 ⟨f1, f2⟩ => Ok.ret w5 ⟨by omega, by simp only [esz]; omega⟩
      rw [if_neg hf]
      by_cases hf : headKind ts = .kLet
      · rw [if_pos hf]
        obtain ⟨a1, a2, a3⟩ := adv_kind h hf (by decide) (by decide)
        by_cases hr : headKind (adv ts) = .kRec
        · rw [if_pos hr]
          obtain ⟨b1, b2, b3⟩ := adv_kind a1 hr (by decide) (by decide)
          exact (ihR [] _ b1 (by omega)).bind fun g t1 w1 ⟨c1, c2⟩ => Ok.ret w1 ⟨by omega, by simp only [esz]; omega⟩
        · rw [if_neg hr]
          exact (Ok.want a1 (by decide) (by decide)).bind fun x t1 w1 ⟨b1, b2⟩ => (Ok.want w1 (by decide) (by decide)).bind fun _ t2 w2 ⟨c1, c2⟩ => (ihE t2 w2 (by omega)).bind fun b t3 w3 ⟨d1, d2⟩ =>
            (Ok.want w3 (by decide) (by decide)).bind fun _ t4 w4 ⟨e1, e2⟩ => (ihE t4 w4 (by omega)).bind fun b t5 w5 ⟨f1, f2⟩ => Ok.ret w5 ⟨by omega, by simp only [esz]; omega⟩
      rw [if_neg hf]
      refine (ihA ts h (by omega)).bind fun x t1 w1 ⟨b1, b2⟩ => ?_
      obtain ⟨res, hres, hP⟩ := ihP (headPos ts) x t1 w1 (by omega) (by omega)
      refine ⟨res, hres, fun a t2 e => ?_⟩
      obtain ⟨c0, c1, c2⟩ := hP a t2 e
      exact ⟨c0, by omega, by omega⟩
    · have hp := h.pos
      unfold pAtom
      simp only
      by_cases hf : headKind ts = .name
      · rw [if_pos hf]
        obtain ⟨a1, a2, a3⟩ := adv_kind h hf (by decide) (by decide)
        exact Ok.ret a1 ⟨by omega, by simp only [esz]; omega⟩
      rw [if_neg hf]
      by_cases hf : headKind ts = .num
      · rw [if_pos hf]
        obtain ⟨a1, a2, a3⟩ := adv_kind h hf (by decide) (by decide)
        exact Ok.ret a1 ⟨by omega, by simp only [esz]; omega⟩
      rw [if_neg hf]
      refine (Ok.want h (by decide) (by decide)).bind fun _ t1 w1 ⟨b1, b2⟩ => (ihE t1 w1 (by omega)).bind fun x t2 w2 ⟨c1, c2⟩ => ?_
      by_cases hc : headKind t2 = .comma
      · rw [if_pos hc]
        obtain ⟨a1, a2, a3⟩ := adv_kind w2 hc (by decide) (by decide)
        exact (ihE _ a1 (by omega)).bind fun y t3 w3 ⟨d1, d2⟩ => (Ok.want w3 (by decide) (by decide)).bind fun _ t4 w4 ⟨e1, e2⟩ => Ok.ret w4 ⟨by omega, by simp only [esz]; omega⟩
      · rw [if_neg hc]
        exact (Ok.want w2 (by decide) (by decide)).bind fun _ t4 w4 ⟨e1, e2⟩ => Ok.ret w4 ⟨by omega, by omega⟩
    · have hp := h.pos
      unfold pApps
      by_cases hs : startsAtom (headKind ts) = true
      · rw [if_pos hs]
        refine (ihA ts h (by omega)).bind fun a t1 w1 ⟨b1, b2⟩ => ?_
        obtain ⟨res, hres, hP⟩ := ihP p (.app p x a) t1 w1 (by omega) (by omega)
        refine ⟨res, hres, fun a' t2 e => ?_⟩
        obtain ⟨c0, c1, c2⟩ := hP a' t2 e
        simp only [esz] at c2
        exact ⟨c0, by omega, by omega⟩
      · rw [if_neg hs]
        exact Ok.ret h ⟨Nat.le_refl _, by omega⟩
    · have hp := h.pos
      unfold pRec
      simp only
      refine (Ok.want h (by decide) (by decide)).bind fun x t1 w1 ⟨b1, b2⟩ => ?_
      by_cases hm : x ∈ l
      · rw [if_pos hm]; exact Ok.err
      rw [if_neg hm]
      refine (Ok.want w1 (by decide) (by decide)).bind fun _ t2 w2 ⟨c1, c2⟩ => (ihE t2 w2 (by omega)).bind fun a t3 w3 ⟨d1, d2⟩ => ?_
      by_cases hc : headKind t3 = .kAnd
      · rw [if_pos hc]
        obtain ⟨a1, a2, a3⟩ := adv_kind w3 hc (by decide) (by decide)
        exact (ihR _ _ a1 (by omega)).bind fun g t4 w4 ⟨e1, e2⟩ => Ok.ret w4 ⟨by omega, by simp only [esz]; omega⟩
      · rw [if_neg hc]
        exact (Ok.want w3 (by decide) (by decide)).bind fun _ t4 w4 ⟨e1, e2⟩ => (ihE t4 w4 (by omega)).bind fun b t5 w5 ⟨f1, f2⟩ => Ok.ret w5 ⟨by omega, by simp only [esz]; omega⟩

/-- How many tokens, how much text. -/
theorem tokAt_text (kw : Bytes → Option Kind) (i : Nat) (l : Bytes) : (tokAt kw i l).1.text.length ≤ l.length + 2 := by
  unfold tokAt
  split
  · simp
  · rename_i c r
    split
    · simp only
      split
      · simp
      · simp only [List.length_take]; omega
    · split
      · simp only
        split
        · simp
        · simp only [List.length_take]; omega
      · split
        · simp
        · split <;> simp
theorem toks_few (kw : Bytes → Option Kind) (s : Bytes) : ∀ n i, (toks kw s n i).length ≤ n ∧ wt (toks kw s n i) ≤ n * (s.length + 34) := by
  intro n
  induction n with
  | zero => intro i; simp [toks, wt]
  | succ n ih =>
    intro i
    have ht : (stepTok kw i (s.drop i)).1.text.length ≤ s.length + 2 := by
      unfold stepTok
      simp only
      refine Nat.le_trans (tokAt_text _ _ _) ?_
      simp only [List.length_drop]
      omega
    unfold toks
    simp only
    split
    · simp only [wt, List.length_cons, List.length_nil]
      rw [Nat.succ_mul]
      constructor
      · omega
      · have := Nat.zero_le (n * (s.length + 34)); omega
    · obtain ⟨h1, h2⟩ := ih (stepTok kw i (s.drop i)).2
      simp only [wt, List.length_cons]
      rw [Nat.succ_mul]
      omega
end Go.Proofs.YtpbplpnifjbkoabGreatDoor

/-
  The plain model: tokens, expressions, the parser, the one text. No program in sight.
-/
import Derived.Test.YtpbplpnifjbkoabGreatDoorBase
import Derived.Deep.Quiet
namespace Go.Proofs.YtpbplpnifjbkoabGreatDoor

abbrev Bytes := List UInt8

/-- The kinds of tokens. -/
inductive Kind
  | name | num | eof | bad
  | kFun | kLet | kRec | kAnd | kIn | kIf | kThen | kElse | kInt | kBool
  | arrow | eqs | lpar | rpar | comma | lbr | rbr
  deriving DecidableEq

structure Tok where
  kind : Kind
  text : Bytes
  pos : Nat

def isSmall (c : UInt8) : Bool := 97 ≤ c && c ≤ 122
def isDigit (c : UInt8) : Bool := 48 ≤ c && c ≤ 57
def isAlnum (c : UInt8) : Bool := isSmall c || isDigit c
def isBlank (c : UInt8) : Bool := c == 32 || c == 10

/-- The keywords of expressions, of types. -/
def kwExp (w : Bytes) : Option Kind :=
  if w = [102, 117, 110] then some .kFun else if w = [108, 101, 116] then some .kLet else if w = [114, 101, 99] then some .kRec
  else if w = [97, 110, 100] then some .kAnd else if w = [105, 110] then some .kIn else if w = [105, 102] then some .kIf
  else if w = [116, 104, 101, 110] then some .kThen else if w = [101, 108, 115, 101] then some .kElse else none
def kwTyp (w : Bytes) : Option Kind :=
  if w = [105, 110, 116] then some .kInt else if w = [98, 111, 111, 108] then some .kBool else none

def signKind (c : UInt8) : Option Kind :=
  if c = 61 then some .eqs else if c = 40 then some .lpar else if c = 41 then some .rpar else if c = 44 then some .comma
  else if c = 91 then some .lbr else if c = 93 then some .rbr else none

def spanLen (p : UInt8 → Bool) : Bytes → Nat
  | [] => 0
  | c :: r => if p c then spanLen p r + 1 else 0

/-- The token that begins at place i, where l is what is left of the text from there (no blank ahead); how many bytes it takes. -/
def tokAt (kw : Bytes → Option Kind) (i : Nat) (l : Bytes) : Tok × Nat :=
  match l with
  | [] => (⟨.eof, [], i⟩, 0)
  | c :: r =>
    if isSmall c then
      let k := spanLen isAlnum l
      if 8 < k then (⟨.bad, [], i⟩, 0) else (⟨(kw (l.take k)).getD .name, l.take k, i⟩, k)
    else if isDigit c then
      let k := spanLen isDigit l
      if 8 < k then (⟨.bad, [], i⟩, 0) else (⟨.num, l.take k, i⟩, k)
    else if c = 45 ∧ r.head? = some 62 then (⟨.arrow, [45, 62], i⟩, 2)
    else match signKind c with
      | some k => (⟨k, [c], i⟩, 1)
      | none => (⟨.bad, [], i⟩, 0)

/-- One step of the reader: blanks, a token; the place behind it. -/
def stepTok (kw : Bytes → Option Kind) (i : Nat) (l : Bytes) : Tok × Nat :=
  let b := spanLen isBlank l
  let t := tokAt kw (i + b) (l.drop b)
  (t.1, i + b + t.2)

def last (t : Tok) : Bool := t.kind == .eof || t.kind == .bad

/-- All tokens from place i on, up to the first that is none or the end. -/
def toks (kw : Bytes → Option Kind) (s : Bytes) : Nat → Nat → List Tok
  | 0, _ => []
  | n + 1, i =>
    let t := stepTok kw i (s.drop i)
    if last t.1 then [t.1] else t.1 :: toks kw s n t.2

/-- The tokens of a text. -/
def tokens (kw : Bytes → Option Kind) (s : Bytes) : List Tok := toks kw s (s.length + 1) 0

/-- Behind the token in hand (the last one stays). -/
def adv : List Tok → List Tok
  | [] => []
  | [t] => [t]
  | _ :: r => r

def headKind : List Tok → Kind
  | [] => .bad
  | t :: _ => t.kind
def headPos : List Tok → Nat
  | [] => 0
  | t :: _ => t.pos
def headText : List Tok → Bytes
  | [] => []
  | t :: _ => t.text

/-- Expressions; the names of a let rec as a chain of 'bnd' that ends in 'fin'. -/
inductive Exp
  | name (pos : Nat) (s : Bytes)
  | num (pos : Nat) (s : Bytes)
  | lam (pos : Nat) (x : Bytes) (b : Exp)
  | app (pos : Nat) (f a : Exp)
  | pair (pos : Nat) (a b : Exp)
  | letin (pos : Nat) (x : Bytes) (a b : Exp)
  | recr (pos : Nat) (g : Exp)
  | bnd (x : Bytes) (a g : Exp)
  | fin (b : Exp)
  | cond (pos : Nat) (c a b : Exp)

/-- What parsing comes to: none: out of fuel; a place that is wrong; what was read and the tokens behind it. -/
abbrev Res (α : Type) := Option (Except Nat (α × List Tok))

def Res.bind {α β : Type} (r : Res α) (f : α → List Tok → Res β) : Res β :=
  match r with
  | none => none
  | some (.error p) => some (.error p)
  | some (.ok (a, ts)) => f a ts

/-- A token of that kind. -/
def want (k : Kind) (ts : List Tok) : Res Bytes :=
  if headKind ts = k then some (.ok (headText ts, adv ts)) else some (.error (headPos ts))

def startsAtom (k : Kind) : Bool := k == .name || k == .num || k == .lpar

mutual
def pExp : Nat → List Tok → Res Exp
  | 0, _ => none
  | n + 1, ts =>
    let p := headPos ts
    if headKind ts = .kFun then
      (want .name (adv ts)).bind fun x ts => (want .arrow ts).bind fun _ ts => (pExp n ts).bind fun b ts => some (.ok (.lam p x b, ts))
    else if headKind ts = .kIf then
      (pExp n (adv ts)).bind fun c ts => (want .kThen ts).bind fun _ ts => (pExp n ts).bind fun a ts => (want .kElse ts).bind fun _ ts =>
        (pExp n ts).bind fun b ts => some (.ok (.cond p c a b, ts))
    else if headKind ts = .kLet then
      if headKind (adv ts) = .kRec then (pRec n [] (adv (adv ts))).bind fun g ts => some (.ok (.recr p g, ts))
      else (want .name (adv ts)).bind fun x ts => (want .eqs ts).bind fun _ ts => (pExp n ts).bind fun a ts => (want .kIn ts).bind fun _ ts =>
        (pExp n ts).bind fun b ts => some (.ok (.letin p x a b, ts))
    else (pAtom n ts).bind fun x ts => pApps n p x ts
def pApps : Nat → Nat → Exp → List Tok → Res Exp
  | 0, _, _, _ => none
  | n + 1, p, x, ts =>
    if startsAtom (headKind ts) then (pAtom n ts).bind fun a ts => pApps n p (.app p x a) ts else some (.ok (x, ts))
def pAtom : Nat → List Tok → Res Exp
  | 0, _ => none
  | n + 1, ts =>
    let p := headPos ts
    if headKind ts = .name then some (.ok (.name p (headText ts), adv ts))
    else if headKind ts = .num then some (.ok (.num p (headText ts), adv ts))
    else (want .lpar ts).bind fun _ ts => (pExp n ts).bind fun x ts =>
      if headKind ts = .comma then (pExp n (adv ts)).bind fun y ts => (want .rpar ts).bind fun _ ts => some (.ok (.pair p x y, ts))
      else (want .rpar ts).bind fun _ ts => some (.ok (x, ts))
def pRec : Nat → List Bytes → List Tok → Res Exp
  | 0, _, _ => none
  | n + 1, l, ts =>
    let p := headPos ts
    (want .name ts).bind fun x ts => if x ∈ l then some (.error p) else (want .eqs ts).bind fun _ ts => (pExp n ts).bind fun a ts =>
      if headKind ts = .kAnd then (pRec n (l ++ [x]) (adv ts)).bind fun g ts => some (.ok (.bnd x a g, ts))
      else (want .kIn ts).bind fun _ ts => (pExp n ts).bind fun b ts => some (.ok (.bnd x a (.fin b), ts))
end

def depth : Exp → Nat
  | .name _ _ => 1
  | .num _ _ => 1
  | .lam _ _ b => depth b + 1
  | .app _ f a => max (depth f) (depth a) + 1
  | .pair _ a b => max (depth a) (depth b) + 1
  | .letin _ _ a b => max (depth a) (depth b) + 1
  | .recr _ g => depth g + 1
  | .bnd _ a g => max (depth a) (depth g)
  | .fin b => depth b
  | .cond _ c a b => max (max (depth c) (depth a)) (depth b) + 1

/-- The expression of a text, or what is wrong with it (as package plain counts faults): (what, place). -/
def readExp (s : Bytes) : Except (Nat × Nat) Exp :=
  if 300 < s.length then .error (1, 0) else
  match (pExp (4 * s.length + 8) (tokens kwExp s)).bind (fun x ts => (want .eof ts).bind fun _ _ => some (.ok (x, []))) with
  | none => .error (0, 0)
  | some (.error p) => .error (2, p)
  | some (.ok (x, _)) => if 40 < depth x then .error (3, 0) else .ok x
end Go.Proofs.YtpbplpnifjbkoabGreatDoor

namespace Go.Proofs.YtpbplpnifjbkoabGreatDoor

/-- The program's words for kinds. -/
def kstr : Kind → Bytes
  | .name => [97, 32, 110, 97, 109, 101]
  | .num => [97, 32, 110, 117, 109, 98, 101, 114]
  | .eof => [101, 110, 100]
  | .bad => [110, 111, 110, 101]
  | .kFun => [102, 117, 110]
  | .kLet => [108, 101, 116]
  | .kRec => [114, 101, 99]
  | .kAnd => [97, 110, 100]
  | .kIn => [105, 110]
  | .kIf => [105, 102]
  | .kThen => [116, 104, 101, 110]
  | .kElse => [101, 108, 115, 101]
  | .kInt => [105, 110, 116]
  | .kBool => [98, 111, 111, 108]
  | .arrow => [45, 62]
  | .eqs => [61]
  | .lpar => [40]
  | .rpar => [41]
  | .comma => [44]
  | .lbr => [91]
  | .rbr => [93]

theorem kstr_inj (a b : Kind) : (kstr a == kstr b) = (a == b) := by cases a <;> cases b <;> decide
theorem kwExp_str (w : Bytes) (k : Kind) (h : kwExp w = some k) : kstr k = w := by
  unfold kwExp at h
  repeat' (split at h; · rename_i e; cases h; rw [e]; rfl)
  cases h
theorem kwTyp_str (w : Bytes) (k : Kind) (h : kwTyp w = some k) : kstr k = w := by
  unfold kwTyp at h
  repeat' (split at h; · rename_i e; cases h; rw [e]; rfl)
  cases h
theorem signKind_str (c : UInt8) (k : Kind) (h : signKind c = some k) : kstr k = [c] := by
  unfold signKind at h
  repeat' (split at h; · rename_i e; cases h; rw [e]; rfl)
  cases h

theorem spanLen_le (p : UInt8 → Bool) (l : Bytes) : spanLen p l ≤ l.length := by
  induction l with
  | nil => exact Nat.le_refl _
  | cons c r ih => unfold spanLen; split <;> simp <;> omega
theorem spanLen_true (p : UInt8 → Bool) (l : Bytes) (j : Nat) (hj : j < l.length) (h : p l[j] = true) : spanLen p (l.drop j) = spanLen p (l.drop (j + 1)) + 1 := by
  rw [List.drop_eq_getElem_cons hj]
  conv => lhs; unfold spanLen
  rw [if_pos h]
theorem spanLen_false (p : UInt8 → Bool) (l : Bytes) (j : Nat) (hj : j < l.length) (h : p l[j] = false) : spanLen p (l.drop j) = 0 := by
  rw [List.drop_eq_getElem_cons hj]
  unfold spanLen
  rw [if_neg (by simp [h])]
theorem spanLen_end (p : UInt8 → Bool) (l : Bytes) (j : Nat) (hj : l.length ≤ j) : spanLen p (l.drop j) = 0 := by
  rw [List.drop_eq_nil_of_le hj]; rfl
end Go.Proofs.YtpbplpnifjbkoabGreatDoor

namespace Go.Proofs.YtpbplpnifjbkoabGreatDoor
open Go.RowKit

/-- A text as Go's string. -/
def bs (l : Bytes) : ByteArray := ⟨l.toArray⟩
theorem bs_size (l : Bytes) : (bs l).size = l.length := by simp [bs, ByteArray.size]
theorem bs_data (l : Bytes) : (bs l).data.toList = l := by simp [bs]
theorem bs_of (s : ByteArray) : bs s.data.toList = s := by cases s; simp [bs]
theorem bs_extract (l : Bytes) (a b : Nat) : (bs l).extract a b = bs ((l.drop a).take (b - a)) := by
  apply ByteArray.ext
  simp [bs, ByteArray.data_extract]
theorem bs_get (l : Bytes) (j : Nat) (h : j < (bs l).size) : (bs l)[j] = l[j]'(by rw [bs_size] at h; exact h) := by
  show (bs l).data[j] = _
  simp [bs]

/-- What a store does to a block. -/
def upd (j : Nat) (v : Value) : Obj → Obj
  | .cells c t z => .cells (c.setIfInBounds j v) t z
  | o => o
theorem heap_setCell_same (w : World) (b j : Nat) (v : Value) : (w.setCell ⟨b, j, none⟩ v).heap[b]? = (w.heap[b]?).map (upd j v) := by
  simp only [World.setCell, Array.getElem?_modify, if_true]
  cases w.heap[b]? with
  | none => rfl
  | some o => cases o <;> rfl
theorem heap_drewN (w : World) (n : Nat) : (w.drewN n).heap = w.heap := rfl
theorem heap_drew (w : World) : w.drew.heap = w.heap := rfl
theorem Keeps.drewN {M : List Nat} {a w : World} (h : Keeps M a w) (n : Nat) : Keeps M a (w.drewN n) := ⟨h.os, h.tape, h.output, h.size, h.block⟩

/-- The token in hand as the program's reader holds it, and the place behind it. -/
structure Hand where
  tok : Tok
  nxt : Nat

/-- One step of the reader from place i. -/
def handAt (kw : Bytes → Option Kind) (s : Bytes) (i : Nat) : Hand := ⟨(stepTok kw i (s.drop i)).1, (stepTok kw i (s.drop i)).2⟩

theorem hand_of_run (kw : Bytes → Option Kind) (s : Bytes) (i j : Nat) (hij : i ≤ j) (hb : spanLen isBlank (s.drop i) = j - i) :
    handAt kw s i = ⟨(tokAt kw j (s.drop j)).1, j + (tokAt kw j (s.drop j)).2⟩ := by
  have e : i + (j - i) = j := by omega
  simp only [handAt, stepTok, hb, List.drop_drop, e]

theorem tok_end (kw : Bytes → Option Kind) (s : Bytes) (j : Nat) (h : s.length ≤ j) : tokAt kw j (s.drop j) = (⟨.eof, [], j⟩, 0) := by
  rw [List.drop_eq_nil_of_le h]; rfl
theorem cons_of (s : Bytes) (j : Nat) (h : j < s.length) : ∃ r, s.drop j = s[j] :: r ∧ r = s.drop (j + 1) := ⟨_, List.drop_eq_getElem_cons h, rfl⟩
theorem tok_small_long (kw : Bytes → Option Kind) (s : Bytes) (j : Nat) (h : j < s.length) (hc : isSmall s[j] = true) (hk : 8 < spanLen isAlnum (s.drop j)) :
    tokAt kw j (s.drop j) = (⟨.bad, [], j⟩, 0) := by
  obtain ⟨r, hr, _⟩ := cons_of s j h
  rw [hr] at hk ⊢
  generalize s[j] = c at *
  clear hr
  simp [tokAt, hc, hk]
theorem tok_small (kw : Bytes → Option Kind) (s : Bytes) (j : Nat) (h : j < s.length) (hc : isSmall s[j] = true) (hk : ¬ 8 < spanLen isAlnum (s.drop j)) :
    tokAt kw j (s.drop j) = (⟨(kw ((s.drop j).take (spanLen isAlnum (s.drop j)))).getD .name, (s.drop j).take (spanLen isAlnum (s.drop j)), j⟩, spanLen isAlnum (s.drop j)) := by
  obtain ⟨r, hr, _⟩ := cons_of s j h
  rw [hr] at hk ⊢
  generalize s[j] = c at *
  clear hr
  simp [tokAt, hc, hk]
theorem tok_digit_long (kw : Bytes → Option Kind) (s : Bytes) (j : Nat) (h : j < s.length) (hs : isSmall s[j] = false) (hc : isDigit s[j] = true) (hk : 8 < spanLen isDigit (s.drop j)) :
    tokAt kw j (s.drop j) = (⟨.bad, [], j⟩, 0) := by
  obtain ⟨r, hr, _⟩ := cons_of s j h
  rw [hr] at hk ⊢
  generalize s[j] = c at *
  clear hr
  simp [tokAt, hs, hc, hk]
theorem tok_digit (kw : Bytes → Option Kind) (s : Bytes) (j : Nat) (h : j < s.length) (hs : isSmall s[j] = false) (hc : isDigit s[j] = true) (hk : ¬ 8 < spanLen isDigit (s.drop j)) :
    tokAt kw j (s.drop j) = (⟨.num, (s.drop j).take (spanLen isDigit (s.drop j)), j⟩, spanLen isDigit (s.drop j)) := by
  obtain ⟨r, hr, _⟩ := cons_of s j h
  rw [hr] at hk ⊢
  generalize s[j] = c at *
  clear hr
  simp [tokAt, hs, hc, hk]
theorem head_drop (s : Bytes) (j : Nat) (h : j + 1 < s.length) : (s.drop (j + 1)).head? = some s[j + 1] := by
  rw [List.drop_eq_getElem_cons h]; rfl
theorem tok_arrow (kw : Bytes → Option Kind) (s : Bytes) (j : Nat) (h : j + 1 < s.length) (hc : s[j] = 45) (hn : s[j + 1] = 62) :
    tokAt kw j (s.drop j) = (⟨.arrow, [45, 62], j⟩, 2) := by
  obtain ⟨r, hr, hr2⟩ := cons_of s j (by omega)
  have hh := head_drop s j h
  rw [← hr2, hn] at hh
  rw [hr, hc]
  clear hr
  have h1 : isSmall (45 : UInt8) = false := by decide
  have h2 : isDigit (45 : UInt8) = false := by decide
  simp [tokAt, h1, h2, hh]
theorem tok_sign (kw : Bytes → Option Kind) (s : Bytes) (j : Nat) (k : Kind) (h : j < s.length) (hc : signKind s[j] = some k) (hs : isSmall s[j] = false) (hd : isDigit s[j] = false) (ha : s[j] ≠ 45) :
    tokAt kw j (s.drop j) = (⟨k, [s[j]], j⟩, 1) := by
  obtain ⟨r, hr, _⟩ := cons_of s j h
  rw [hr]
  generalize s[j] = c at *
  clear hr
  simp [tokAt, hs, hd, ha, hc]
theorem tok_bad (kw : Bytes → Option Kind) (s : Bytes) (j : Nat) (h : j < s.length) (hc : signKind s[j] = none) (hs : isSmall s[j] = false) (hd : isDigit s[j] = false)
    (ha : ¬ (s[j] = 45 ∧ ∃ h : j + 1 < s.length, s[j + 1] = 62)) :
    tokAt kw j (s.drop j) = (⟨.bad, [], j⟩, 0) := by
  obtain ⟨r, hr, hr2⟩ := cons_of s j h
  have hn : ¬ (s[j] = 45 ∧ r.head? = some 62) := by
    rintro ⟨h1, h2⟩
    apply ha
    refine ⟨h1, ?_⟩
    by_cases hj : j + 1 < s.length
    · rw [hr2, head_drop s j hj] at h2
      exact ⟨hj, by simpa using h2⟩
    · rw [hr2, List.drop_eq_nil_of_le (by omega)] at h2
      cases h2
  rw [hr]
  clear ha hr hr2
  generalize s[j] = c at *
  simp only [tokAt, hs, hd, hc, if_neg hn]
  simp
end Go.Proofs.YtpbplpnifjbkoabGreatDoor

namespace Go.Proofs.YtpbplpnifjbkoabGreatDoor
open Go.RowKit
theorem bs_beq (a b : Bytes) : ((bs a).toList == (bs b).toList) = (a == b) := by rw [ByteArray.toList_eq, ByteArray.toList_eq, bs_data, bs_data]
theorem tokAt_le (kw : Bytes → Option Kind) (i : Nat) (l : Bytes) : (tokAt kw i l).2 ≤ l.length := by
  cases l with
  | nil => exact Nat.le_refl _
  | cons c r =>
    unfold tokAt
    simp only
    split
    · split
      · exact Nat.zero_le _
      · exact spanLen_le _ _
    · split
      · split
        · exact Nat.zero_le _
        · exact spanLen_le _ _
      · split
        · rename_i h
          cases r with
          | nil => simp at h
          | cons d r => simp
        · split
          · simp
          · exact Nat.zero_le _
theorem hand_le (kw : Bytes → Option Kind) (s : Bytes) (i : Nat) (h : i ≤ s.length) : (handAt kw s i).nxt ≤ s.length := by
  have h1 := spanLen_le isBlank (s.drop i)
  have h2 := tokAt_le kw (i + spanLen isBlank (s.drop i)) ((s.drop i).drop (spanLen isBlank (s.drop i)))
  simp only [List.length_drop] at h1 h2
  simp only [handAt, stepTok]
  omega


theorem tokAt_pos (kw : Bytes → Option Kind) (_hkw : ∀ b k, kw b = some k → k ≠ .eof ∧ k ≠ .bad) (i : Nat) (l : Bytes) (h : last (tokAt kw i l).1 = false) : 0 < (tokAt kw i l).2 := by
  cases l with
  | nil => simp [tokAt, last] at h
  | cons c r =>
    unfold tokAt at h ⊢
    simp only at h ⊢
    split
    · rename_i hc
      rw [if_pos hc] at h
      split
      · rename_i h8; rw [if_pos h8] at h; simp [last] at h
      · unfold spanLen; rw [if_pos (by simp [isAlnum, hc])]; omega
    · rename_i hc
      rw [if_neg hc] at h
      split
      · rename_i hd
        rw [if_pos hd] at h
        split
        · rename_i h8; rw [if_pos h8] at h; simp [last] at h
        · unfold spanLen; rw [if_pos hd]; omega
      · rename_i hd
        rw [if_neg hd] at h
        split
        · omega
        · rename_i ha
          rw [if_neg ha] at h
          split
          · omega
          · rename_i hs; rw [hs] at h; simp [last] at h
theorem hand_gt (kw : Bytes → Option Kind) (hkw : ∀ b k, kw b = some k → k ≠ .eof ∧ k ≠ .bad) (s : Bytes) (i : Nat) (h : last (handAt kw s i).tok = false) : i < (handAt kw s i).nxt := by
  have := tokAt_pos kw hkw (i + spanLen isBlank (s.drop i)) ((s.drop i).drop (spanLen isBlank (s.drop i))) h
  simp only [handAt, stepTok]
  omega
theorem kwExp_ok (b : Bytes) (k : Kind) (h : kwExp b = some k) : k ≠ .eof ∧ k ≠ .bad := by
  unfold kwExp at h
  repeat' (split at h; · cases h; exact ⟨by decide, by decide⟩)
  cases h
theorem kwTyp_ok (b : Bytes) (k : Kind) (h : kwTyp b = some k) : k ≠ .eof ∧ k ≠ .bad := by
  unfold kwTyp at h
  repeat' (split at h; · cases h; exact ⟨by decide, by decide⟩)
  cases h
end Go.Proofs.YtpbplpnifjbkoabGreatDoor

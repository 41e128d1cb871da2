/-
  text.Reader's Want and Take, New, Fail, Caught; ast.Keyword: by contracts.
-/
import Derived.Test.YtpbplpnifjbkoabGreatDoorRd
import Derived.Test.YtpbplpnifjbkoabGreatDoorTokx
namespace Go.Proofs.YtpbplpnifjbkoabGreatDoor
open Go.RowKit

/-- The list of tokens from a hand on. -/
inductive TL (kw : Bytes → Option Kind) (l : Bytes) : Hand → List Tok → Prop
  | last (h : Hand) : last h.tok = true → TL kw l h [h.tok]
  | more (h : Hand) (ts : List Tok) : last h.tok = false → TL kw l (handAt kw l h.nxt) ts → TL kw l h (h.tok :: ts)

/-- A keyword function by its number: what a reader holds. -/
structure KwFn (kf : Nat) (kw : Bytes → Option Kind) : Prop where
  calls : ∀ (b : ByteArray) (W : World), Calls Tryz.prog kf #[.string b] W fun e w' => e = .returned (.bool (kw b.data.toList).isSome) ∧ W = w'
  str : ∀ b k, kw b = some k → kstr k = b
  ent : ∀ (b : ByteArray) (W : World), (callFunc kf #[.string b]).run Tryz.prog W = .ok (.enter kf #[.string b]) W

abbrev fnv (kf : Nat) : Value := .func (.func kf) #[] #[]

/-- The reader with a token in hand and the list of tokens from there. -/
structure RdOK (kf : Nat) (kw : Bytes → Option Kind) (s : ByteArray) (rd : Nat) (ts : List Tok) (w : World) : Prop where
  ex : ∃ h : Hand, RdAt s rd (fnv kf) h w ∧ h.nxt ≤ s.size ∧ TL kw s.data.toList h ts
  fit : s.size ≤ maxLen

/-- What text.Fail panics with. -/
abbrev stopV (p : Nat) : Value := .iface 273 (.agg #[.int .i64 p])

theorem headOf {kw : Bytes → Option Kind} {l : Bytes} {h : Hand} {ts : List Tok} (t : TL kw l h ts) : headKind ts = h.tok.kind ∧ headText ts = h.tok.text ∧ headPos ts = h.tok.pos := by
  cases t <;> exact ⟨rfl, rfl, rfl⟩

theorem fail_any (p : Int) (w : World) : Calls Tryz.prog 132 #[.int .i64 p] w fun e w' => e = .panicked [{ v := .iface 273 (.agg #[.int .i64 p]), recovered := false }] ∧ w = w' := by
  go_enter Tryz.func132, Tryz.ntmps132
  go_wp2
  exact ⟨rfl, rfl, rfl⟩

theorem kne {a b : Kind} (h : a ≠ b) : ((bs (kstr a)).toList == (bs (kstr b)).toList) = false := by
  rw [bs_beq, kstr_inj]; simpa using h
theorem keq (a : Kind) : ((bs (kstr a)).toList == (bs (kstr a)).toList) = true := by simp

theorem want_no {kf : Nat} {kw : Bytes → Option Kind} {s : ByteArray} {rd : Nat} {ts : List Tok} {w : World} (hR : RdOK kf kw s rd ts w) (k : Kind) (kb : ByteArray) (hkb : kb = bs (kstr k)) (hne : headKind ts ≠ k) :
    Calls Tryz.prog 88 #[.pointer (some ⟨rd, 0, none⟩), .string kb] w fun e w' => e = .panicked [{ v := stopV (headPos ts), recovered := false }] ∧ w = w' := by
  obtain ⟨⟨h, hat, hn, hts⟩, hfit⟩ := hR
  obtain ⟨e1, e2, e3⟩ := headOf hts
  rw [e3]
  rw [e1] at hne
  have c2 : w.cell? ⟨rd, 2, none⟩ = some (.string (bs (kstr h.tok.kind))) := cell_of_block hat 2
  have c4 : w.cell? ⟨rd, 4, none⟩ = some (.int .i64 h.tok.pos) := cell_of_block hat 4
  subst hkb
  have hq := kne hne
  clear hat hn hts e1 e2 e3 hne
  go_enter Tryz.func88, Tryz.ntmps88
  go_wp2_with (go_at_call 132; refine (fail_any _ _).mono ?_; rintro e w' ⟨rfl, rfl⟩)
  exact ⟨rfl, rfl, rfl⟩

/-- Behind a step of the reader. -/
theorem step_ok {kf : Nat} {kw : Bytes → Option Kind} {s : ByteArray} {rd : Nat} {h : Hand} {ts : List Tok} {w' : World} (hfit : s.size ≤ maxLen) (hn : h.nxt ≤ s.size)
    (hl : last h.tok = false) (hts : TL kw s.data.toList h ts) (hat : RdAt s rd (fnv kf) (handAt kw s.data.toList h.nxt) w') : RdOK kf kw s rd (adv ts) w' := by
  refine ⟨⟨_, hat, ?_, ?_⟩, hfit⟩
  · have := hand_le kw s.data.toList h.nxt (by simpa using hn); simpa using this
  · cases hts with
    | last _ h1 => rw [hl] at h1; cases h1
    | more _ ts h1 h2 =>
      cases h2 with
      | last _ h3 => exact .last _ h3
      | more _ _ h3 h4 => exact .more _ _ h3 h4

theorem want_yes {kf : Nat} {kw : Bytes → Option Kind} {s : ByteArray} {rd : Nat} {ts : List Tok} {w : World} (hK : KwFn kf kw) (hR : RdOK kf kw s rd ts w) (k : Kind) (kb : ByteArray) (hkb : kb = bs (kstr k)) (hne : headKind ts = k) :
    Calls Tryz.prog 88 #[.pointer (some ⟨rd, 0, none⟩), .string kb] w fun e w' =>
      e = .returned (.string (bs (headText ts))) ∧ (k ≠ .eof → k ≠ .bad → RdOK kf kw s rd (adv ts) w') ∧ Keeps [rd] w w' := by
  obtain ⟨⟨h, hat, hn, hts⟩, hfit⟩ := hR
  obtain ⟨e1, e2, e3⟩ := headOf hts
  rw [e2]
  rw [e1] at hne
  subst hne
  have c2 : w.cell? ⟨rd, 2, none⟩ = some (.string (bs (kstr h.tok.kind))) := cell_of_block hat 2
  have c3 : w.cell? ⟨rd, 3, none⟩ = some (.string (bs h.tok.text)) := cell_of_block hat 3
  subst hkb
  have hq := keq h.tok.kind
  have HAT := Lib.hid hat
  have HTS := Lib.hid hts
  clear hat hts e1 e2 e3
  go_enter Tryz.func88, Tryz.ntmps88
  go_wp2_with fail
  refine (next_any kf kw s rd h.nxt h.tok.pos _ _ w hfit hn hK.calls hK.str hK.ent HAT.out).mono ?_
  rintro e w' ⟨rfl, hat', hk⟩
  have HA2 := Lib.hid hat'
  have HK2 := Lib.hid hk
  clear hat' hk
  go_wp2
  go_ret
  refine ⟨rfl, fun h1 h2 => step_ok hfit hn ?_ HTS.out HA2.out, HK2.out⟩
  simp [last, h1, h2]

theorem take_no {kf : Nat} {kw : Bytes → Option Kind} {s : ByteArray} {rd : Nat} {ts : List Tok} {w : World} (hR : RdOK kf kw s rd ts w) (k : Kind) (kb : ByteArray) (hkb : kb = bs (kstr k)) (hne : headKind ts ≠ k) :
    Calls Tryz.prog 129 #[.pointer (some ⟨rd, 0, none⟩), .string kb] w fun e w' => e = .returned (.bool false) ∧ w = w' := by
  obtain ⟨⟨h, hat, hn, hts⟩, hfit⟩ := hR
  obtain ⟨e1, e2, e3⟩ := headOf hts
  rw [e1] at hne
  have c2 : w.cell? ⟨rd, 2, none⟩ = some (.string (bs (kstr h.tok.kind))) := cell_of_block hat 2
  subst hkb
  have hq := kne hne
  clear hat hn hts e1 e2 e3 hne
  go_enter Tryz.func129, Tryz.ntmps129
  go_wp2_with fail
  go_ret
  exact ⟨rfl, rfl⟩

theorem take_yes {kf : Nat} {kw : Bytes → Option Kind} {s : ByteArray} {rd : Nat} {ts : List Tok} {w : World} (hK : KwFn kf kw) (hR : RdOK kf kw s rd ts w) (k : Kind) (kb : ByteArray) (hkb : kb = bs (kstr k)) (hne : headKind ts = k) (h1 : k ≠ .eof) (h2 : k ≠ .bad) :
    Calls Tryz.prog 129 #[.pointer (some ⟨rd, 0, none⟩), .string kb] w fun e w' =>
      e = .returned (.bool true) ∧ RdOK kf kw s rd (adv ts) w' ∧ Keeps [rd] w w' := by
  obtain ⟨⟨h, hat, hn, hts⟩, hfit⟩ := hR
  obtain ⟨e1, e2, e3⟩ := headOf hts
  rw [e1] at hne
  subst hne
  have c2 : w.cell? ⟨rd, 2, none⟩ = some (.string (bs (kstr h.tok.kind))) := cell_of_block hat 2
  subst hkb
  have hq := keq h.tok.kind
  have HAT := Lib.hid hat
  have HTS := Lib.hid hts
  clear hat hts e1 e2 e3
  go_enter Tryz.func129, Tryz.ntmps129
  go_wp2_with fail
  refine (next_any kf kw s rd h.nxt h.tok.pos _ _ w hfit hn hK.calls hK.str hK.ent HAT.out).mono ?_
  rintro e w' ⟨rfl, hat', hk⟩
  have HA2 := Lib.hid hat'
  have HK2 := Lib.hid hk
  clear hat' hk
  go_wp2
  go_ret
  refine ⟨rfl, step_ok hfit hn ?_ HTS.out HA2.out, HK2.out⟩
  simp [last, h1, h2]

theorem toks_TL (kw : Bytes → Option Kind) (hkw : ∀ b k, kw b = some k → k ≠ .eof ∧ k ≠ .bad) (l : Bytes) (n i : Nat) (hi : i ≤ l.length) (hn : l.length - i < n) : TL kw l (handAt kw l i) (toks kw l n i) := by
  induction n generalizing i with
  | zero => omega
  | succ n ih =>
    unfold toks
    simp only
    by_cases hl : last (stepTok kw i (l.drop i)).1 = true
    · rw [if_pos hl]; exact .last _ hl
    · rw [if_neg hl]
      have hl' : last (handAt kw l i).tok = false := eq_false_of_ne_true hl
      refine .more _ _ hl' ?_
      refine ih _ ?_ ?_
      · exact hand_le kw l i hi
      · have h1 := hand_gt kw hkw l i hl'
        have h2 := hand_le kw l i hi
        simp only [handAt] at h1 h2 ⊢
        omega
end Go.Proofs.YtpbplpnifjbkoabGreatDoor

/-
  Types put for variables are found again; a type and its one text are instances of each other. No program in sight.
-/
import Derived.Test.YtpbplpnifjbkoaaGreatDoorTypl
import Derived.Test.YtpbplpnifjbkoaaGreatDoorTcan
import Derived.Test.YtpbplpnifjbkoaaGreatDoorInst
namespace Go.Proofs.YtpbplpnifjbkoaaGreatDoor

/-! ### Names of variables -/
/-- The n-th name where figures are few. -/
def letterS (n : Nat) : Bytes := if n < 26 then [UInt8.ofNat (97 + n % 26)] else UInt8.ofNat (97 + n % 26) :: (if n / 26 < 10 then [UInt8.ofNat (48 + n / 26)] else [UInt8.ofNat (48 + n / 26 / 10), UInt8.ofNat (48 + n / 26 % 10)])
theorem letter_few {n : Nat} (h : n < 2600) : letter n = letterS n := by
  unfold letter letterS
  split
  · rfl
  · rename_i h1
    congr 1
    have hq : n / 26 < 100 := by omega
    generalize n / 26 = m at hq
    rw [figs]
    split
    · rfl
    · rw [figs, if_pos (by omega)]
      rfl
def nameB (x : Bytes) : Bool := (match x with | [] => false | c :: _ => isSmall c) && x.all isAlnum && decide (x.length ≤ 8) && (kwTyp x).isNone
theorem nameB_ok {x : Bytes} (h : nameB x = true) : NameOK x := by
  unfold nameB at h
  simp only [Bool.and_eq_true, List.all_eq_true, decide_eq_true_eq, Option.isNone_iff_eq_none] at h
  obtain ⟨⟨⟨h1, h2⟩, h3⟩, h4⟩ := h
  refine ⟨?_, h2, h3, h4⟩
  cases x with
  | nil => simp at h1
  | cons c r => exact ⟨c, r, rfl, h1⟩
/-- The number of a name. -/
def numOf (x : Bytes) : Nat := match x with
  | [c] => c.toNat - 97
  | [c, d] => c.toNat - 97 + 26 * (d.toNat - 48)
  | [c, d, e] => c.toNat - 97 + 26 * (10 * (d.toNat - 48) + (e.toNat - 48))
  | _ => 0
theorem letters_all : ((List.range 700).all fun n => nameB (letterS n) && numOf (letterS n) == n) = true := by decide +kernel
theorem letter_ok {n : Nat} (h : n < 700) : NameOK (letter n) ∧ numOf (letter n) = n := by
  have := List.all_eq_true.1 letters_all n (List.mem_range.2 h)
  simp only [Bool.and_eq_true, beq_iff_eq] at this
  rw [letter_few (by omega)]
  exact ⟨nameB_ok this.1, this.2⟩
theorem letter_inj {n m : Nat} (hn : n < 700) (hm : m < 700) (h : letter n = letter m) : n = m := by
  rw [← (letter_ok hn).2, ← (letter_ok hm).2, h]

/-! ### Variables -/
theorem put_id (t : Ty) : t.put .var = t := by
  induction t with
  | var n => rfl
  | int => rfl
  | bool => rfl
  | list a ih => simp only [Ty.put, ih]
  | pair a b iha ihb => simp only [Ty.put, iha, ihb]
  | arr a b iha ihb => simp only [Ty.put, iha, ihb]
theorem range_idx {n v : Nat} (h : v < n) : (List.range n).idxOf v = v := by
  have h1 : (List.range n)[v]? = some v := by simp [h]
  obtain ⟨h2, h3⟩ := List.getElem?_eq_some_iff.1 h1
  have := (List.nodup_range (n := n)).idxOf_getElem v h2
  rwa [h3] at this
theorem ReadOK.lt {t : Ty} {ns : List Bytes} (h : ReadOK t ns) {v : Nat} (hv : t.has v) : v < ns.length := by
  have := (mem_varsL t [] v).2 (.inr hv)
  rw [h.vars] at this
  exact List.mem_range.1 this
theorem canon_shown {t : Ty} {ns : List Bytes} (h : ReadOK t ns) : canon t = shown letter t := by
  unfold canon
  refine shown_congr fun v hv => ?_
  rw [h.vars, range_idx (h.lt hv)]
/-- Variables behind others: those that are new. -/
theorem varsL_behind (t : Ty) : ∀ l k : List Nat, varsL t (l ++ k.filter fun v => decide (v ∉ l)) = l ++ (varsL t k).filter fun v => decide (v ∉ l) := by
  induction t with
  | var n =>
    intro l k
    unfold varsL
    by_cases hk : n ∈ k
    · rw [if_pos hk, if_pos]
      by_cases hl : n ∈ l
      · simp [hl]
      · simp [hl, hk]
    · rw [if_neg hk]
      by_cases hl : n ∈ l
      · rw [if_pos (by simp [hl])]
        simp [List.filter_append, hl]
      · rw [if_neg (by simp [hl, hk])]
        simp [List.filter_append, hl]
  | int => intro l k; rfl
  | bool => intro l k; rfl
  | list a ih => exact ih
  | pair a b iha ihb => intro l k; rw [varsL, iha, ihb]; rfl
  | arr a b iha ihb => intro l k; rw [varsL, iha, ihb]; rfl
theorem varsL_more (t : Ty) (l : List Nat) : varsL t l = l ++ (varsL t []).filter fun v => decide (v ∉ l) := by
  have := varsL_behind t l []
  simpa using this
theorem varsL_max {t : Ty} {n m : Nat} (h : varsL t [] = List.range m) : varsL t (List.range n) = List.range (max n m) := by
  rw [varsL_more, h]
  rcases Nat.le_total m n with hle | hle
  · rw [Nat.max_eq_left hle, List.filter_eq_nil_iff.2, List.append_nil]
    intro v hv
    have := List.mem_range.1 hv
    simp; omega
  · obtain ⟨d, rfl⟩ := Nat.exists_eq_add_of_le hle
    rw [Nat.max_eq_right hle, List.range_add, List.filter_append, List.filter_eq_nil_iff.2, List.nil_append, List.filter_eq_self.2]
    · intro v hv
      obtain ⟨u, _, rfl⟩ := List.mem_map.1 hv
      simp
    · intro v hv
      have := List.mem_range.1 hv
      simp; omega

/-! ### The one text is read -/
theorem read_texts (nm : Nat → Bytes) (t : Ty) (hv : ∀ v, t.has v → NameOK (nm v)) : readTyp (shown nm t) = if 300 < (shown nm t).length then .error (1, 0) else if 120 < (back nm t []).1.size then .error (8, 0) else .ok (back nm t []) := by
  have hsz : 3 * t.size + 1 ≤ 4 * (shown nm t).length + 8 := by
    have : ∀ t : Ty, (∀ v, t.has v → NameOK (nm v)) → t.size ≤ (shown nm t).length := by
      intro t
      induction t with
      | var v =>
        intro h
        obtain ⟨⟨c, r, e, _⟩, _⟩ := h v rfl
        simp [shown, Ty.size, e]
      | int => intro _; simp [shown, Ty.size]
      | bool => intro _; simp [shown, Ty.size]
      | list a ih => intro h; have := ih h; simp [shown, Ty.size]; omega
      | pair a b iha ihb => intro h; have := iha fun v hh => h v (.inl hh); have := ihb fun v hh => h v (.inr hh); simp [shown, Ty.size]; omega
      | arr a b iha ihb => intro h; have := iha fun v hh => h v (.inl hh); have := ihb fun v hh => h v (.inr hh); have := isArr_shown nm a; simp only [shown, Ty.size, List.length_append, List.length_cons, List.length_nil]; omega
    have := this t hv
    omega
  have he : headKind (tk (shown nm t) (0 + (shown nm t).length)) = .eof := tk_end (by simp) (by simp)
  have hw := (back_all nm t hv).2 (shown nm t) 0 [] [] (4 * (shown nm t).length + 8) (by simp) (by simp) (fun c h => by simp at h) (by rw [he]; decide) hsz
  unfold readTyp
  rw [show tokens kwTyp (shown nm t) = tk (shown nm t) 0 from rfl, hw, bind_ok, want_ok he, bind_ok]
/-- A type whose variables are numbered in turn is read back as it is. -/
theorem read_letters {t : Ty} {n : Nat} (hv : varsL t [] = List.range n) (hn : n < 700) : readTyp (shown letter t) = if 300 < (shown letter t).length then .error (1, 0) else if 120 < t.size then .error (8, 0) else .ok (t, (List.range n).map letter) := by
  have hlt : ∀ v, t.has v → v < n := fun v h => by
    have := (mem_varsL t [] v).2 (.inr h)
    rw [hv] at this
    exact List.mem_range.1 this
  have hb : back letter t [] = (t, (List.range n).map letter) := by
    have := back_eq letter t [] fun u v hu hv h => letter_inj (by have := hlt u (hu.resolve_left (by simp)); omega) (by have := hlt v (hv.resolve_left (by simp)); omega) h
    simp only [List.map_nil, hv] at this
    rw [this]
    refine Prod.ext ?_ rfl
    show t.ren _ = t
    unfold Ty.ren
    rw [put_congr (τ := .var) fun v h => by show Ty.var ((List.range n).idxOf v) = Ty.var v; rw [range_idx (hlt v h)]]
    exact put_id t
  rw [read_texts letter t fun v h => (letter_ok (by have := hlt v h; omega)).1, hb]
theorem read_canon {t : Ty} {ns : List Bytes} (h : ReadOK t ns) : readTyp (canon t) = if 300 < (canon t).length then .error (1, 0) else .ok (t, (List.range ns.length).map letter) := by
  have hf := h.few
  have hs := h.size
  rw [canon_shown h, read_letters h.vars (by omega), if_neg (show ¬ 120 < t.size by omega)]
theorem match_self (t : Ty) : ∃ l, matchT t t [] = some l := by
  obtain ⟨l, h, _⟩ := matchT_put .var t [] (fun v u h => by simp at h)
  rw [put_id] at h
  exact ⟨l, h⟩

/-! ### Is there an arrow outside of all brackets? -/
def arrowB : Bytes → Int → Bool
  | [], _ => false
  | [_], _ => false
  | c :: d :: r, o => if c = 40 ∨ c = 91 then arrowB (d :: r) (o + 1) else if c = 41 ∨ c = 93 then arrowB (d :: r) (o - 1) else if c = 45 ∧ o = 0 then true else arrowB (d :: r) o
def plainC (c : UInt8) : Prop := c ≠ 40 ∧ c ≠ 91 ∧ c ≠ 41 ∧ c ≠ 93 ∧ c ≠ 45
theorem arrowB_skip {c : UInt8} (h : plainC c) {r : Bytes} (hr : r ≠ []) (o : Int) : arrowB (c :: r) o = arrowB r o := by
  obtain ⟨h1, h2, h3, h4, h5⟩ := h
  cases r with
  | nil => exact absurd rfl hr
  | cons d r => simp [arrowB, h1, h2, h3, h4, h5]
theorem arrowB_word : ∀ {x : Bytes}, (∀ c ∈ x, plainC c) → ∀ {r : Bytes}, r ≠ [] → ∀ o, arrowB (x ++ r) o = arrowB r o
  | [], _, _, _, _ => rfl
  | c :: x, h, r, hr, o => by
    rw [List.cons_append, arrowB_skip (h c (by simp)) (by simp [hr]), arrowB_word (fun d hd => h d (by simp [hd])) hr]
theorem arrowB_open {c : UInt8} (h : c = 40 ∨ c = 91) {r : Bytes} (hr : r ≠ []) (o : Int) : arrowB (c :: r) o = arrowB r (o + 1) := by
  cases r with
  | nil => exact absurd rfl hr
  | cons d r => simp only [arrowB]; rw [if_pos h]
theorem arrowB_shut {c : UInt8} (h : c = 41 ∨ c = 93) {r : Bytes} (hr : r ≠ []) (o : Int) : arrowB (c :: r) o = arrowB r (o - 1) := by
  cases r with
  | nil => exact absurd rfl hr
  | cons d r =>
    simp only [arrowB]
    rw [if_neg (by rcases h with rfl | rfl <;> decide), if_pos h]
theorem alnum_plain {c : UInt8} (h : isAlnum c = true) : plainC c := by
  refine ⟨?_, ?_, ?_, ?_, ?_⟩ <;> (rintro rfl; exact absurd h (by decide))
theorem arrowB_all (nm : Nat → Bytes) (t : Ty) (hv : ∀ v, t.has v → NameOK (nm v)) : ∀ r : Bytes, r ≠ [] → ∀ o : Int, 0 ≤ o → arrowB (shown nm t ++ r) o = if isArr t = true ∧ o = 0 then true else arrowB r o := by
  induction t with
  | var n =>
    intro r hr o _
    rw [shown, arrowB_word (fun c hc => alnum_plain ((hv n rfl).2.1 c hc)) hr]
    simp [isArr]
  | int =>
    intro r hr o _
    rw [shown, arrowB_word (fun c hc => by simp at hc; rcases hc with rfl | rfl | rfl <;> exact alnum_plain (by decide)) hr]
    simp [isArr]
  | bool =>
    intro r hr o _
    rw [shown, arrowB_word (fun c hc => by simp at hc; rcases hc with rfl | rfl | rfl | rfl <;> exact alnum_plain (by decide)) hr]
    simp [isArr]
  | list a ih =>
    intro r hr o ho
    have h1 : ([91] ++ shown nm a ++ [93]) ++ r = 91 :: (shown nm a ++ (93 :: r)) := by simp
    rw [shown, h1, arrowB_open (.inr rfl) (by simp), ih hv _ (by simp) _ (by omega), if_neg (by omega), arrowB_shut (.inr rfl) hr]
    simp [isArr]
  | pair a b iha ihb =>
    intro r hr o ho
    have h1 : ([40] ++ shown nm a ++ [44, 32] ++ shown nm b ++ [41]) ++ r = 40 :: (shown nm a ++ ([44, 32] ++ (shown nm b ++ (41 :: r)))) := by simp
    rw [shown, h1, arrowB_open (.inl rfl) (by simp), iha (fun v h => hv v (.inl h)) _ (by simp) _ (by omega), if_neg (by omega), arrowB_word (x := [44, 32]) (by intro c hc; simp at hc; rcases hc with rfl | rfl <;> (unfold plainC; decide)) (by simp),
      ihb (fun v h => hv v (.inr h)) _ (by simp) _ (by omega), if_neg (by omega), arrowB_shut (.inl rfl) hr]
    simp [isArr]
  | arr a b iha ihb =>
    intro r hr o ho
    have hb := ihb (fun v h => hv v (.inr h)) r hr o ho
    have key : arrowB ([32, 45, 62, 32] ++ (shown nm b ++ r)) o = if o = 0 then true else arrowB r o := by
      have e : [32, 45, 62, 32] ++ (shown nm b ++ r) = 32 :: 45 :: 62 :: ([32] ++ (shown nm b ++ r)) := by simp
      rw [e, arrowB_skip (by unfold plainC; decide) (by simp)]
      by_cases h0 : o = 0
      · subst h0; simp [arrowB]
      · rw [if_neg h0]
        have : arrowB (45 :: 62 :: ([32] ++ (shown nm b ++ r))) o = arrowB (62 :: ([32] ++ (shown nm b ++ r))) o := by
          simp only [arrowB]
          rw [if_neg (by decide), if_neg (by decide), if_neg (by simp [h0])]
        rw [this, arrowB_skip (by unfold plainC; decide) (by simp), arrowB_word (x := [32]) (by intro c hc; simp at hc; subst hc; unfold plainC; decide) (by simp [hr]), hb, if_neg (by simp [h0])]
    have e : shown nm (.arr a b) ++ r = (if isArr a then par (shown nm a) else shown nm a) ++ ([32, 45, 62, 32] ++ (shown nm b ++ r)) := by simp [shown]
    rw [e]
    have hi := iha (fun v h => hv v (.inl h))
    have hfin : arrowB ((if isArr a then par (shown nm a) else shown nm a) ++ ([32, 45, 62, 32] ++ (shown nm b ++ r))) o = arrowB ([32, 45, 62, 32] ++ (shown nm b ++ r)) o := by
      by_cases ha : isArr a = true
      · rw [if_pos ha]
        have e2 : par (shown nm a) ++ ([32, 45, 62, 32] ++ (shown nm b ++ r)) = 40 :: (shown nm a ++ (41 :: ([32, 45, 62, 32] ++ (shown nm b ++ r)))) := by simp [par]
        rw [e2, arrowB_open (.inl rfl) (by simp), hi _ (by simp) _ (by omega), if_neg (by omega), arrowB_shut (.inl rfl) (by simp)]
        congr 1; omega
      · rw [if_neg ha, hi _ (by simp) _ ho, if_neg (by simp [ha])]
    rw [hfin, key]
    simp [isArr]
theorem arrowB_shown (nm : Nat → Bytes) (t : Ty) (hv : ∀ v, t.has v → NameOK (nm v)) : arrowB (shown nm t) 0 = isArr t := by
  have word : ∀ x : Bytes, (∀ c ∈ x, plainC c) → arrowB x 0 = false := by
    intro x
    induction x with
    | nil => intro _; rfl
    | cons c x ih =>
      intro h
      cases x with
      | nil => rfl
      | cons d x => rw [arrowB_skip (h c (by simp)) (by simp)]; exact ih fun e he => h e (by simp [he])
  cases t with
  | var n => exact word _ fun c hc => alnum_plain ((hv n rfl).2.1 c hc)
  | int => exact word [105, 110, 116] fun c hc => by simp at hc; rcases hc with rfl | rfl | rfl <;> exact alnum_plain (by decide)
  | bool => exact word [98, 111, 111, 108] fun c hc => by simp at hc; rcases hc with rfl | rfl | rfl | rfl <;> exact alnum_plain (by decide)
  | list a =>
    have h1 : [91] ++ shown nm a ++ [93] = 91 :: (shown nm a ++ [93]) := by simp
    rw [shown, h1, arrowB_open (.inr rfl) (by simp), arrowB_all nm a hv _ (by simp) _ (by omega), if_neg (by omega)]
    rfl
  | pair a b =>
    have h1 : [40] ++ shown nm a ++ [44, 32] ++ shown nm b ++ [41] = 40 :: (shown nm a ++ ([44, 32] ++ (shown nm b ++ [41]))) := by simp
    rw [shown, h1, arrowB_open (.inl rfl) (by simp), arrowB_all nm a (fun v h => hv v (.inl h)) _ (by simp) _ (by omega), if_neg (by omega), arrowB_word (x := [44, 32]) (by intro c hc; simp at hc; rcases hc with rfl | rfl <;> (unfold plainC; decide)) (by simp),
      arrowB_all nm b (fun v h => hv v (.inr h)) _ (by simp) _ (by omega), if_neg (by omega)]
    rfl
  | arr a b =>
    have key : ∀ r : Bytes, arrowB ([32, 45, 62, 32] ++ r) 0 = true := fun r => by
      rw [show [32, 45, 62, 32] ++ r = 32 :: 45 :: 62 :: 32 :: r by simp, arrowB_skip (by unfold plainC; decide) (by simp)]
      simp [arrowB]
    have hi := arrowB_all nm a (fun v h => hv v (.inl h))
    have e : shown nm (.arr a b) = (if isArr a then par (shown nm a) else shown nm a) ++ ([32, 45, 62, 32] ++ shown nm b) := by simp [shown]
    rw [e]
    by_cases ha : isArr a = true
    · rw [if_pos ha]
      have e2 : par (shown nm a) ++ ([32, 45, 62, 32] ++ shown nm b) = 40 :: (shown nm a ++ (41 :: ([32, 45, 62, 32] ++ shown nm b))) := by simp [par]
      rw [e2, arrowB_open (.inl rfl) (by simp), hi _ (by simp) _ (by omega), if_neg (by omega), arrowB_shut (.inl rfl) (by simp)]
      exact key _
    · rw [if_neg ha, hi _ (by simp) _ (by omega), if_neg (by simp [ha])]
      exact key _
theorem arrow_canon {t : Ty} {ns : List Bytes} (h : ReadOK t ns) : arrowB (canon t) 0 = isArr t := by
  rw [canon_shown h]
  exact arrowB_shown letter t fun v hv => (letter_ok (by have := h.lt hv; have := h.few; omega)).1

/-! ### Types put for variables -/
/-- "p -> (q, [p])". -/
def genText : Bytes := [112, 32, 45, 62, 32, 40, 113, 44, 32, 91, 112, 93, 41]
def genTy : Ty := .arr (.var 0) (.pair (.var 1) (.list (.var 0)))
theorem read_gen : readTyp genText = .ok (genTy, [[112], [113]]) := by
  have : (match readTyp genText with | .ok q => decide (q = (genTy, [[112], [113]])) | .error _ => false) = true := by decide +kernel
  revert this
  cases readTyp genText with
  | error f => simp
  | ok q => simp
/-- The text in which types are put. -/
def specText (x y : Bytes) (isA : Bool) : Bytes := (if isA = true then [40] ++ x ++ [41] else x) ++ [32, 45, 62, 32, 40] ++ y ++ [44, 32, 91] ++ x ++ [93, 41]
theorem read_spec {ta tb : Ty} {na nb : List Bytes} (ha : ReadOK ta na) (hb : ReadOK tb nb) :
    readTyp (specText (canon ta) (canon tb) (isArr ta)) = .error (1, 0) ∨ readTyp (specText (canon ta) (canon tb) (isArr ta)) = .error (8, 0) ∨
    readTyp (specText (canon ta) (canon tb) (isArr ta)) = .ok (.arr ta (.pair tb (.list ta)), (List.range (max na.length nb.length)).map letter) := by
  have e : specText (canon ta) (canon tb) (isArr ta) = shown letter (.arr ta (.pair tb (.list ta))) := by
    rw [canon_shown ha, canon_shown hb]
    simp [specText, shown, par]
  have hv : varsL (.arr ta (.pair tb (.list ta))) [] = List.range (max na.length nb.length) := by
    simp only [varsL]
    rw [ha.vars, varsL_max hb.vars, varsL_max ha.vars]
    congr 1; omega
  have hf := ha.few
  have hf' := hb.few
  rw [e, read_letters hv (by omega)]
  by_cases h1 : 300 < (shown letter (.arr ta (.pair tb (.list ta)))).length
  · exact .inl (if_pos h1)
  · rw [if_neg h1]
    by_cases h2 : 120 < (Ty.arr ta (.pair tb (.list ta))).size
    · exact .inr (.inl (if_pos h2))
    · exact .inr (.inr (if_neg h2))
theorem match_gen (ta tb : Ty) : matchT genTy (.arr ta (.pair tb (.list ta))) [] = some [(1, tb), (0, ta)] := by
  simp [matchT, genTy, List.lookup]
end Go.Proofs.YtpbplpnifjbkoaaGreatDoor

namespace Go.Proofs.YtpbplpnifjbkoaaGreatDoor
open Go.RowKit

theorem readTyp_posK {s : Bytes} {f : Nat × Nat} (h : readTyp s = .error f) : f.1 = 1 ∨ f.1 = 2 ∨ f.1 = 8 := by
  by_cases hs : 300 < s.length
  · unfold readTyp at h; rw [if_pos hs] at h; cases h; exact .inl rfl
  · obtain ⟨res, hres, _⟩ := readTyp_spec s (by omega)
    rw [readTyp_eq hs hres] at h
    cases res with
    | error p => simp [finT] at h; subst h; exact .inr (.inl rfl)
    | ok q =>
      obtain ⟨x, ts⟩ := q
      simp only [finT] at h
      split at h
      · split at h
        · cases h; exact .inr (.inr rfl)
        · cases h
      · cases h; exact .inr (.inl rfl)

def CanonK (w : World) (r : Except (Nat × Nat) (Ty × List Bytes)) (e : Ending) (w' : World) : Prop :=
  Keeps [] w w' ∧ e = .returned (match r with
    | .ok q => .tuple #[.string (bs (canon q.1)), faultV 0 0 ⟨#[]⟩ 0 0]
    | .error f => .tuple #[.string ⟨#[]⟩, faultV f.1 (placeOf f) ⟨#[]⟩ 0 0])
theorem plain_canonK {a : Nat → Addr} {B : Nat} (w : World) (hG : Gl a B w) (s : ByteArray) : Calls Tryz.prog 14 #[.string s] w (CanonK w (readTyp s.data.toList)) := by
  letI : Inhabited Low := ⟨⟨w.heap.size⟩⟩
  refine (plain_canon w hG (Nat.le_refl _) s).mono ?_
  rintro e w' ⟨hk, he⟩
  exact ⟨hk.keeps (Nat.le_refl _), he⟩
def InstK (w : World) (r : Except (Nat × Nat) (List Bytes × List Bytes × List (Nat × Ty))) (e : Ending) (w' : World) : Prop :=
  Keeps [] w w' ∧ match r with
  | .ok q => ∃ sn st, e = .returned (.tuple #[sn, st, .bool false, faultV 0 0 ⟨#[]⟩ 0 0]) ∧ SRow w' w.heap.size sn (ksOf q.1) ∧ SRow w' w.heap.size st ((ksOf q.1).map (textOf q.1 q.2.1 q.2.2))
  | .error f => e = .returned (.tuple #[.slice none 0 0, .slice none 0 0, .bool true, faultV f.1 (placeOf f) ⟨#[]⟩ 0 0])
theorem plain_instK {a : Nat → Addr} {B : Nat} (w : World) (hG : Gl a B w) (s t : ByteArray) : Calls Tryz.prog 17 #[.string s, .string t] w (InstK w (instOf s.data.toList t.data.toList)) := by
  letI : Inhabited Low := ⟨⟨w.heap.size⟩⟩
  refine (plain_instance w hG (Nat.le_refl _) s t).mono ?_
  rintro e w' ⟨hk, he⟩
  exact ⟨hk.keeps (Nat.le_refl _), he⟩
/-! ### What Renamed asks -/
theorem inst_canon {s : Bytes} {q : Ty × List Bytes} (hr : readTyp s = .ok q) :
    (300 < (canon q.1).length ∧ readTyp (canon q.1) = .error (1, 0) ∧ instOf s (canon q.1) = .error (1, 0) ∧ instOf (canon q.1) s = .error (1, 0)) ∨
    ((canon q.1).length ≤ 300 ∧ readTyp (canon q.1) = .ok (q.1, (List.range q.2.length).map letter) ∧ ∃ l, instOf s (canon q.1) = .ok (q.2, (List.range q.2.length).map letter, l) ∧ instOf (canon q.1) s = .ok ((List.range q.2.length).map letter, q.2, l)) := by
  have hok : ReadOK q.1 q.2 := readTyp_ok hr
  have hc := read_canon hok
  by_cases h : 300 < (canon q.1).length
  · rw [if_pos h] at hc
    refine .inl ⟨h, hc, ?_, ?_⟩
    · simp only [instOf, hr, hc]
    · simp only [instOf, hc]
  · rw [if_neg h] at hc
    obtain ⟨l, hl⟩ := match_self q.1
    refine .inr ⟨by omega, hc, l, ?_, ?_⟩
    · simp only [instOf, hr, hc, hl]
    · simp only [instOf, hr, hc, hl]
theorem ks_gen : ksOf [[112], [113]] = [[112], [113]] := by
  unfold ksOf
  refine List.mergeSort_of_pairwise ?_
  simp
  decide
theorem shown_own {t : Ty} {ns : List Bytes} (h : ReadOK t ns) {K : Nat} (hK : ns.length ≤ K) : shown (nthN ((List.range K).map letter)) t = canon t := by
  rw [canon_shown h]
  refine shown_congr fun v hv => ?_
  have := h.lt hv
  have hv' : v < K := by omega
  simp [nthN, List.getD_eq_getElem?_getD, hv']
theorem inst_gen {ta tb : Ty} {na nb : List Bytes} (ha : ReadOK ta na) (hb : ReadOK tb nb) :
    instOf genText (specText (canon ta) (canon tb) (isArr ta)) = .error (1, 0) ∨ instOf genText (specText (canon ta) (canon tb) (isArr ta)) = .error (8, 0) ∨
    ∃ ss l, instOf genText (specText (canon ta) (canon tb) (isArr ta)) = .ok ([[112], [113]], ss, l) ∧ (ksOf [[112], [113]]).map (textOf [[112], [113]] ss l) = [canon ta, canon tb] := by
  rcases read_spec ha hb with h | h | h
  · exact .inl (by simp only [instOf, read_gen, h])
  · exact .inr (.inl (by simp only [instOf, read_gen, h]))
  · refine .inr (.inr ⟨(List.range (max na.length nb.length)).map letter, [(1, tb), (0, ta)], by simp only [instOf, read_gen, h, match_gen], ?_⟩)
    rw [ks_gen]
    have e0 : ([[112], [113]] : List Bytes).idxOf [112] = 0 := by decide
    have e1 : ([[112], [113]] : List Bytes).idxOf [113] = 1 := by decide
    simp only [List.map_cons, List.map_nil, textOf, e0, e1]
    rw [show List.lookup 0 [(1, tb), (0, ta)] = some ta from rfl, show List.lookup 1 [(1, tb), (0, ta)] = some tb from rfl]
    simp only [Option.map_some, Option.getD_some]
    rw [shown_own ha (Nat.le_max_left _ _), shown_own hb (Nat.le_max_right _ _)]
end Go.Proofs.YtpbplpnifjbkoaaGreatDoor

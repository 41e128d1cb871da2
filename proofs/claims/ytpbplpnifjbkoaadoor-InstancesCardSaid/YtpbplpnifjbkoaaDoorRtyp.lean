/-
  The document's types in memory; its parser's state with names; what a step may turn.
-/
import Derived.Test.YtpbplpnifjbkoaaDoorRrec
import Derived.Test.YtpbplpnifjbkoaaDoorTypl
import Derived.Deep.AppendLies
import Derived.Test.YtpbplpnifjbkoaaDoorTval
namespace Go.Proofs.YtpbplpnifjbkoaaDoor
open Go.RowKit

theorem idx_first {x : Bytes} : ∀ {l : List Bytes} {j : Nat}, l[j]? = some x → (∀ q, q < j → l[q]? ≠ some x) → l.idxOf x = j
  | [], j, h, _ => by simp at h
  | a :: l, 0, h, _ => by simp at h; subst h; simp
  | a :: l, j + 1, h, h' => by
    have ha : a ≠ x := fun e => h' 0 (by omega) (by simp [e])
    have := idx_first (l := l) (j := j) (by simpa using h) (fun q hq e => h' (q + 1) (by omega) (by simpa using e))
    rw [List.idxOf_cons, beq_false_of_ne ha, this]; rfl
abbrev rtO (k : Bytes) (n : Int) (sv : Value) : Obj := .cells #[.string (bs k), .int .i64 n, sv] 93 (0, 0)
abbrev pV (b : Nat) : Value := .pointer (some ⟨b, 0, none⟩)
abbrev tInt : Bytes := [105, 110, 116]
abbrev tBool : Bytes := [98, 111, 111, 108]
abbrev tList : Bytes := [108, 105, 115, 116]
abbrev tPair : Bytes := [112, 97, 105, 114]
abbrev tFun : Bytes := [102, 117, 110]

/-- A row of parts. -/
def RRow (w : World) (sv : Value) (vs : List Value) : Prop :=
  ∃ g cap cs, sv = .slice (some ⟨g, 0, none⟩) vs.length cap ∧ w.heap[g]? = some (.cells cs 38 (0, 0)) ∧ ∀ (j : Nat) (v : Value), vs[j]? = some v → cs[j]? = some v
/-- A value is that type of the document's. -/
def RTy (w : World) : Ty → Value → Prop
  | .var n, v => ∃ b, v = pV b ∧ w.heap[b]? = some (rtO [] n (.slice none 0 0))
  | .int, v => ∃ b, v = pV b ∧ w.heap[b]? = some (rtO tInt 0 (.slice none 0 0))
  | .bool, v => ∃ b, v = pV b ∧ w.heap[b]? = some (rtO tBool 0 (.slice none 0 0))
  | .list a, v => ∃ b sv va, v = pV b ∧ w.heap[b]? = some (rtO tList 0 sv) ∧ RRow w sv [va] ∧ RTy w a va
  | .pair a c, v => ∃ b sv va vc, v = pV b ∧ w.heap[b]? = some (rtO tPair 0 sv) ∧ RRow w sv [va, vc] ∧ RTy w a va ∧ RTy w c vc
  | .arr a c, v => ∃ b sv va vc, v = pV b ∧ w.heap[b]? = some (rtO tFun 0 sv) ∧ RRow w sv [va, vc] ∧ RTy w a va ∧ RTy w c vc
theorem RTy.ptr {w : World} {t : Ty} {v : Value} (h : RTy w t v) : ∃ b, v = pV b := by
  cases t with
  | var n => obtain ⟨b, h, _⟩ := h; exact ⟨b, h⟩
  | int => obtain ⟨b, h, _⟩ := h; exact ⟨b, h⟩
  | bool => obtain ⟨b, h, _⟩ := h; exact ⟨b, h⟩
  | list a => obtain ⟨b, sv, va, h, _⟩ := h; exact ⟨b, h⟩
  | pair a c => obtain ⟨b, sv, va, vc, h, _⟩ := h; exact ⟨b, h⟩
  | arr a c => obtain ⟨b, sv, va, vc, h, _⟩ := h; exact ⟨b, h⟩

/-- Types of the document's lie as they lay. -/
def KR (w w' : World) : Prop := ∀ (k : Nat) cs T z, w.heap[k]? = some (.cells cs T z) → T = 93 ∨ T = 38 → w'.heap[k]? = some (.cells cs T z)
theorem KR.row {w w' : World} (h : KR w w') {sv : Value} {vs : List Value} (hr : RRow w sv vs) : RRow w' sv vs := by
  obtain ⟨g, cap, cs, h1, h2, h3⟩ := hr
  exact ⟨g, cap, cs, h1, h _ _ _ _ h2 (.inr rfl), h3⟩
theorem KR.ty {w w' : World} (h : KR w w') : ∀ {t : Ty} {v : Value}, RTy w t v → RTy w' t v
  | .var _, _, ⟨b, e, h'⟩ => ⟨b, e, h _ _ _ _ h' (.inl rfl)⟩
  | .int, _, ⟨b, e, h'⟩ => ⟨b, e, h _ _ _ _ h' (.inl rfl)⟩
  | .bool, _, ⟨b, e, h'⟩ => ⟨b, e, h _ _ _ _ h' (.inl rfl)⟩
  | .list _, _, ⟨b, sv, va, e, h1, h2, h3⟩ => ⟨b, sv, va, e, h _ _ _ _ h1 (.inl rfl), h.row h2, KR.ty h h3⟩
  | .pair _ _, _, ⟨b, sv, va, vb, e, h1, h2, h3, h4⟩ => ⟨b, sv, va, vb, e, h _ _ _ _ h1 (.inl rfl), h.row h2, KR.ty h h3, KR.ty h h4⟩
  | .arr _ _, _, ⟨b, sv, va, vb, e, h1, h2, h3, h4⟩ => ⟨b, sv, va, vb, e, h _ _ _ _ h1 (.inl rfl), h.row h2, KR.ty h h3, KR.ty h h4⟩

/-- What the parser of types may turn: its reader, the variable of names, rows of strings; nothing below B. -/
structure KT (B r nb : Nat) (w w' : World) : Prop where
  os : w'.os = w.os
  tape : w'.tape = w.tape
  output : w'.output = w.output
  size : w.heap.size ≤ w'.heap.size
  low : ∀ k, k < B → k < w.heap.size → w'.heap[k]? = w.heap[k]?
  block : ∀ (k : Nat) (o : Obj), w.heap[k]? = some o → k ≠ r → k ≠ nb → (∀ cs z, o ≠ .cells cs 9 z) → w'.heap[k]? = some o
theorem KT.refl (B r nb : Nat) (w : World) : KT B r nb w w := ⟨rfl, rfl, rfl, Nat.le_refl _, fun _ _ _ => rfl, fun _ _ h _ _ _ => h⟩
theorem KT.trans {B r nb : Nat} {a b c : World} (h : KT B r nb a b) (k : KT B r nb b c) : KT B r nb a c :=
  ⟨k.os.trans h.os, k.tape.trans h.tape, k.output.trans h.output, Nat.le_trans h.size k.size, fun i hi hs => (k.low i hi (Nat.lt_of_lt_of_le hs h.size)).trans (h.low i hi hs),
    fun i o ho h1 h2 h3 => k.block i o (h.block i o ho h1 h2 h3) h1 h2 h3⟩
theorem Keeps.kt {B r nb : Nat} {M : List Nat} {w w' : World} (h : Keeps M w w') (hM : ∀ m ∈ M, (m = r ∨ m = nb) ∧ B ≤ m) : KT B r nb w w' :=
  ⟨h.os, h.tape, h.output, h.size, fun k hk hs => h.block k hs (fun hm => by have := (hM k hm).2; omega), fun k _ ho h1 h2 _ => Keeps.some h ho (fun hm => (hM k hm).1.elim h1 h2)⟩
theorem KT.keeps {r nb : Nat} {w w' : World} (h : KT w.heap.size r nb w w') : Keeps [] w w' := ⟨h.os, h.tape, h.output, h.size, fun k hk _ => h.low k hk hk⟩
/-- The names read so far. -/
def RNm (B nb : Nat) (ns : List Bytes) (w : World) : Prop := ∃ sv, w.heap[nb]? = some (.cells #[sv] 39 (0, 0)) ∧ w.ownsRow B 9 1 sv ns.length (ns.map fun e => .string (bs e))
theorem RNm.keep {B nb r : Nat} {ns : List Bytes} {w w' : World} (h : RNm B nb ns w) (hk : Keeps [r] w w') {o : Obj} (hr : w.heap[r]? = some o) (h1 : ∀ cs z, o ≠ .cells cs 39 z) (h2 : ∀ cs z, o ≠ .cells cs 9 z) : RNm B nb ns w' := by
  obtain ⟨sv, hb, hown⟩ := h
  refine ⟨sv, hk.some hb ?_, hown.1, hown.2.imp id fun ⟨g, cap, cur, e1, e2, e3, e4⟩ => ⟨g, cap, cur, e1, e2, hk.some e3 ?_, e4⟩⟩
  · simp only [List.mem_singleton]
    rintro rfl
    rw [hr] at hb
    exact h1 _ _ (by simpa using hb)
  · simp only [List.mem_singleton]
    rintro rfl
    rw [hr] at e3
    exact h2 _ _ (by simpa using e3)
theorem RNm.keep0 {B nb : Nat} {ns : List Bytes} {w w' : World} (h : RNm B nb ns w) (hk : Keeps [] w w') : RNm B nb ns w' := by
  obtain ⟨sv, hb, hown⟩ := h
  exact ⟨sv, hk.some hb (by simp), hown.1, hown.2.imp id fun ⟨g, cap, cur, e1, e2, e3, e4⟩ => ⟨g, cap, cur, e1, e2, hk.some e3 (by simp), e4⟩⟩
theorem RC.obj {r : Nat} {ts : List Tok} {b : Int} {w : World} (h : RC r ts b w) : ∃ cs, w.heap[r]? = some (.cells cs 71 (0, 0)) := by
  obtain ⟨g, n, cap, k, all, h1, _⟩ := h.ex
  exact ⟨_, h1⟩

theorem adv_le (ts : List Tok) : (adv ts).length ≤ ts.length := by
  match ts with
  | [] => simp [adv]
  | [_] => simp [adv]
  | _ :: _ :: r => simp [adv]
/-- The state of the document's parser of types. -/
structure RTC (B r nb : Nat) (ns : List Bytes) (ts : List Tok) (w : World) : Prop where
  rc : RC r ts (-1) w
  nm : RNm B nb ns w
  br : B ≤ r
  bn : B ≤ nb
  hb : B ≤ w.heap.size
  few : ns.length + ts.length ≤ 100000
  ne : r ≠ nb
theorem RTC.take {B r nb : Nat} {ns : List Bytes} {ts : List Tok} {w w' : World} (h : RTC B r nb ns ts w) (hk : Keeps [r] w w') (hr : RC r (adv ts) (-1) w') : RTC B r nb ns (adv ts) w' ∧ KT B r nb w w' := by
  obtain ⟨cs, ho⟩ := h.rc.obj
  have hl := adv_le ts
  exact ⟨⟨hr, h.nm.keep hk ho (by simp) (by simp), h.br, h.bn, Nat.le_trans h.hb hk.size, by have := h.few; omega, h.ne⟩, hk.kt (by simpa using h.br)⟩
theorem RTC.keep {B r nb : Nat} {ns : List Bytes} {ts : List Tok} {w w' : World} (h : RTC B r nb ns ts w) (hk : Keeps [] w w') : RTC B r nb ns ts w' :=
  ⟨h.rc.keep hk, h.nm.keep0 hk, h.br, h.bn, Nat.le_trans h.hb hk.size, h.few, h.ne⟩
theorem KT.kr {B r nb : Nat} {w w' : World} {ns : List Bytes} {ts : List Tok} (h : KT B r nb w w') (hc : RTC B r nb ns ts w) : KR w w' := by
  obtain ⟨cs0, ho⟩ := hc.rc.obj
  obtain ⟨sv, hb, _⟩ := hc.nm
  intro k cs T z hk hT
  refine h.block k _ hk ?_ ?_ ?_
  · rintro rfl; rw [ho] at hk; cases hk; rcases hT with e | e <;> exact absurd e (by decide)
  · rintro rfl; rw [hb] at hk; cases hk; rcases hT with e | e <;> exact absurd e (by decide)
  · rintro cs' z' e; cases e; rcases hT with e | e <;> exact absurd e (by decide)
theorem Keeps.kr {w w' : World} (h : Keeps [] w w') : KR w w' := fun _ _ _ _ hk _ => h.some hk (by simp)
/-- How a call ends: its outcome; the tokens left, the names; or the first place that is wrong. -/
def RTPost (B r nb : Nat) (_ns : List Bytes) (w : World) (res : Except Nat ((Ty × List Bytes) × List Tok)) (e : Ending) (w' : World) : Prop :=
  KT B r nb w w' ∧ ∃ b, e = .returned (pV b) ∧ match res with
  | .ok (q, ts) => RTC B r nb q.2 ts w' ∧ RTy w' q.1 (pV b)
  | .error p => ∃ ts, RC r ts (p : Nat) w'
def RArrIH (B r nb n : Nat) : Prop := ∀ ns ts w res, RTC B r nb ns ts w → pWhole n ns ts = some res → Calls Tryd.prog 30 #[pV r, pV nb] w (RTPost B r nb ns w res)
def ROneIH (B r nb n : Nat) : Prop := ∀ ns ts w res, RTC B r nb ns ts w → pOne n ns ts = some res → Calls Tryd.prog 56 #[pV r, pV nb] w (RTPost B r nb ns w res)

/-- One more name. -/
theorem RNm.push {B r nb : Nat} {ns : List Bytes} {w w6 : World} {sv : Value} (x : Bytes) (hbx : w.heap[nb]? = some (.cells #[sv] 39 (0, 0))) (hown : w.ownsRow B 9 1 sv ns.length (ns.map fun e => .string (bs e)))
    (hB : B ≤ nb) (_hBw : B ≤ w.heap.size) {g cp : Nat} (hown6 : w6.ownsRow B 9 1 (.slice (some ⟨g, 0, none⟩) (ns.length + 1) cp) (ns.length + 1) ((ns.map fun e => .string (bs e)) ++ [.string (bs x)]))
    (hgr6 : (w.alloc (.cells #[.string (bs x)] 9)).grownBy w6 sv.ownBlock) :
    RNm B nb (ns ++ [x]) (w6.setCell ⟨nb, 0, none⟩ (.slice (some ⟨g, 0, none⟩) (ns.length + 1) cp)) ∧ KT B r nb w (w6.setCell ⟨nb, 0, none⟩ (.slice (some ⟨g, 0, none⟩) (ns.length + 1) cp)) := by
  have hst : ∀ (k : Nat) o, w.heap[k]? = some o → (∀ cs z, o ≠ .cells cs 9 z) → some k ≠ sv.ownBlock := by
    intro k o ho hne e
    rcases hown.2 with ⟨rfl, _⟩ | ⟨g', cap, cur, rfl, _, hh, _⟩
    · simp [Value.ownBlock] at e
    · simp only [Value.ownBlock, Option.some.injEq] at e
      subst e
      rw [ho] at hh
      cases hh
      exact hne _ _ rfl
  have hfar : ∀ (k : Nat) o, w.heap[k]? = some o → k ≠ nb → (∀ cs z, o ≠ .cells cs 9 z) → (w6.setCell ⟨nb, 0, none⟩ (.slice (some ⟨g, 0, none⟩) (ns.length + 1) cp)).heap[k]? = some o := by
    intro k o ho hn hne
    refine block_setCell_other ?_ _ _ hn
    rw [hgr6.block k (by have := lt_of_some ho; simp; omega) (hst k o ho hne)]
    exact block_alloc_old ho
  have hnb6 : w6.heap[nb]? = some (.cells #[sv] 39 (0, 0)) := by
    rw [hgr6.block nb (by have := lt_of_some hbx; simp; omega) (hst nb _ hbx (by simp))]
    exact block_alloc_old hbx
  have hs6 := hgr6.size
  have hs0 : (w.alloc (.cells #[.string (bs x)] 9)).heap.size = w.heap.size + 1 := by simp
  have hsz : (w6.setCell ⟨nb, 0, none⟩ (.slice (some ⟨g, 0, none⟩) (ns.length + 1) cp)).heap.size = w6.heap.size := by simp [World.setCell]
  have hgn : nb ≠ g := by
    rintro rfl
    rcases hown6.2 with ⟨h1, _⟩ | ⟨g', cap', cur, h1, h2, h3, _⟩
    · simp at h1
    · simp only [Value.slice.injEq, Option.some.injEq, Addr.mk.injEq] at h1
      obtain ⟨⟨rfl, _⟩, _, rfl⟩ := h1
      rw [hnb6] at h3
      cases h3
  refine ⟨⟨.slice (some ⟨g, 0, none⟩) (ns.length + 1) cp, by simpa using block_setCell hnb6 0 (.slice (some ⟨g, 0, none⟩) (ns.length + 1) cp), ?_⟩,
    ⟨hgr6.os, hgr6.tape, hgr6.output, by omega, fun k hk hks => ?_, fun k o ho _ h2 h3 => hfar k o ho h2 h3⟩⟩
  · refine ⟨by simp, ?_⟩
    rcases hown6.2 with ⟨h1, h2⟩ | ⟨g', cap', cur, h1, h2, h3, h4, h5, h6, h7⟩
    · simp at h1
    · simp only [Value.slice.injEq, Option.some.injEq, Addr.mk.injEq] at h1
      obtain ⟨⟨rfl, _⟩, _, rfl⟩ := h1
      refine .inr ⟨g, cp, cur, by simp, h2, block_setCell_other h3 _ _ (Ne.symm hgn), by simpa using h4, h5, h6, by simpa using h7⟩
  · rw [Below.heap_setCell w6 _ _ k (by simp; omega), hgr6.block k (by omega) (fun e => by have := (hown.lt k e.symm).1; omega), Below.heap_alloc _ _ _ hks]

/-- Nodes put together. -/
theorem rmk_one {w : World} {a : Ty} {va : Value} (h : RTy w a va) : RTy ((w.alloc (.cells #[va] 38)).alloc (rtO tList 0 (.slice (some ⟨w.heap.size, 0, none⟩) 1 1))) (.list a) (pV (w.heap.size + 1)) := by
  have hk := ((Keeps.refl [] w).alloc (.cells #[va] 38)).alloc (rtO tList 0 (.slice (some ⟨w.heap.size, 0, none⟩) 1 1))
  have hb := block_alloc (w.alloc (.cells #[va] 38)) (rtO tList 0 (.slice (some ⟨w.heap.size, 0, none⟩) 1 1))
  have hs : (w.alloc (.cells #[va] 38)).heap.size = w.heap.size + 1 := by simp
  rw [hs] at hb
  have hg := block_alloc_old (o' := rtO tList 0 (.slice (some ⟨w.heap.size, 0, none⟩) 1 1)) (block_alloc w (.cells #[va] 38))
  refine ⟨_, _, va, rfl, hb, ⟨_, 1, _, rfl, hg, fun j v hj => ?_⟩, hk.kr.ty h⟩
  simpa using hj
theorem rmk_two {w : World} {a b : Ty} {va vb : Value} (k : Bytes) (h : RTy w a va) (h' : RTy w b vb) :
    let w2 := (w.alloc (.cells #[va, vb] 38)).alloc (rtO k 0 (.slice (some ⟨w.heap.size, 0, none⟩) 2 2))
    w2.heap[w.heap.size + 1]? = some (rtO k 0 (.slice (some ⟨w.heap.size, 0, none⟩) 2 2)) ∧ RRow w2 (.slice (some ⟨w.heap.size, 0, none⟩) 2 2) [va, vb] ∧ RTy w2 a va ∧ RTy w2 b vb := by
  have hk := ((Keeps.refl [] w).alloc (.cells #[va, vb] 38)).alloc (rtO k 0 (.slice (some ⟨w.heap.size, 0, none⟩) 2 2))
  have hb := block_alloc (w.alloc (.cells #[va, vb] 38)) (rtO k 0 (.slice (some ⟨w.heap.size, 0, none⟩) 2 2))
  have hs : (w.alloc (.cells #[va, vb] 38)).heap.size = w.heap.size + 1 := by simp
  rw [hs] at hb
  have hg := block_alloc_old (o' := rtO k 0 (.slice (some ⟨w.heap.size, 0, none⟩) 2 2)) (block_alloc w (.cells #[va, vb] 38))
  refine ⟨hb, ⟨_, 2, _, rfl, hg, fun j v hj => ?_⟩, hk.kr.ty h, hk.kr.ty h'⟩
  simpa using hj
theorem rmk_arr {w : World} {a b : Ty} {va vb : Value} (h : RTy w a va) (h' : RTy w b vb) : RTy ((w.alloc (.cells #[va, vb] 38)).alloc (rtO tFun 0 (.slice (some ⟨w.heap.size, 0, none⟩) 2 2))) (.arr a b) (pV (w.heap.size + 1)) := by
  obtain ⟨h1, h2, h3, h4⟩ := rmk_two tFun h h'
  exact ⟨_, _, va, vb, rfl, h1, h2, h3, h4⟩
theorem rmk_pair {w : World} {a b : Ty} {va vb : Value} (h : RTy w a va) (h' : RTy w b vb) : RTy ((w.alloc (.cells #[va, vb] 38)).alloc (rtO tPair 0 (.slice (some ⟨w.heap.size, 0, none⟩) 2 2))) (.pair a b) (pV (w.heap.size + 1)) := by
  obtain ⟨h1, h2, h3, h4⟩ := rmk_two tPair h h'
  exact ⟨_, _, va, vb, rfl, h1, h2, h3, h4⟩
end Go.Proofs.YtpbplpnifjbkoaaDoor

namespace Go.Proofs.YtpbplpnifjbkoaaDoor
open Go.RowKit

set_option maxRecDepth 100000 in
set_option maxHeartbeats 4000000 in
theorem rarrow_any (B r nb n : Nat) (ih : RArrIH B r nb n) (ihO : ROneIH B r nb n) : RArrIH B r nb (n + 1) := by
  intro ns ts w0 res hC0 hres
  unfold pWhole at hres
  have HC0 := Lib.hid hC0
  have HR0 := Lib.hid hres
  have HI := Lib.hid ih
  have HO := Lib.hid ihO
  clear hC0 hres ih ihO
  go_enter Tryd.func30, Tryd.ntmps30
  go_wp2_with fail
  rcases bind_some HR0.out with ⟨p, hp, rfl⟩ | ⟨q1, ts1, hp, hrs⟩
  · refine (HO.out _ _ _ _ HC0.out hp).mono ?_
    rintro e w1 ⟨hk, b, rfl, ts', hrc⟩
    have HK1 := Lib.hid hk
    have HS1 := Lib.hid (show RSt r (.error p) w1 from ⟨ts', hrc⟩)
    clear hk hrc hp
    go_wp2_with fail
    refine (rtake_st HS1.out .arrow _ rfl (fun ts' h => by cases h)).mono ?_
    rintro e w2 ⟨rfl, hk⟩
    have HS2 := Lib.hid (HS1.out.keep hk)
    have HK2 := Lib.hid (HK1.out.trans (hk.kt (by simp)))
    clear hk
    go_wp2
    go_ret
    exact ⟨HK2.out, b, rfl, HS2.out⟩
  refine (HO.out _ _ _ _ HC0.out hp).mono ?_
  rintro e w1 ⟨hk, b1, rfl, hC, hv⟩
  have HC1 := Lib.hid hC
  have HK1 := Lib.hid hk
  have HR1 := Lib.hid hrs
  have HV1 := Lib.hid hv
  clear hC hk hrs hp hv
  by_cases ha : headKind ts1 = .arrow
  · have hrs2 := HR1.out
    simp only [ha, if_true] at hrs2
    have HR2 := Lib.hid hrs2
    clear hrs2
    go_wp2_with fail
    refine (rtake_yes HC1.out.rc .arrow _ rfl ha).mono ?_
    rintro e w2 ⟨rfl, hrc, hk, _⟩
    obtain ⟨hC, hkt⟩ := HC1.out.take hk (hrc (by decide) (by decide))
    have HC2 := Lib.hid hC
    have HK2 := Lib.hid (HK1.out.trans hkt)
    have HV2 := Lib.hid ((hkt.kr HC1.out).ty HV1.out)
    clear hrc hk hC hkt ha
    go_wp2_with fail
    rcases bind_some HR2.out with ⟨p, hp, rfl⟩ | ⟨q2, ts2, hp, hrs⟩
    · refine (HI.out _ _ _ _ HC2.out hp).mono ?_
      rintro e w3 ⟨hk, b2, rfl, ts', hrc⟩
      have HK3 := Lib.hid (HK2.out.trans hk)
      have HS3 := Lib.hid (show RSt r (.error p) w3 from ⟨ts', hrc⟩)
      clear hk hrc hp
      go_wp2
      have hkk := ((Keeps.refl [] w3).alloc (.cells #[pV b1, pV b2] 38)).alloc (rtO tFun 0 (.slice (some ⟨w3.heap.size, 0, none⟩) 2 2))
      refine bodyPost_ret (v := pV (w3.heap.size + 1)) (by simp [results, Tryd.results30, go_sem]) rfl ⟨HK3.out.trans (hkk.kt (by simp)), _, rfl, HS3.out.keep hkk⟩
    refine (HI.out _ _ _ _ HC2.out hp).mono ?_
    rintro e w3 ⟨hk, b2, rfl, hC, hv⟩
    obtain rfl : res = .ok ((.arr q1.1 q2.1, q2.2), ts2) := by simpa using hrs.symm
    have HC3 := Lib.hid hC
    have HK3 := Lib.hid (HK2.out.trans hk)
    have HV3 := Lib.hid ((hk.kr HC2.out).ty HV2.out)
    have HW3 := Lib.hid hv
    clear hC hk hrs hp hv
    go_wp2
    have hkk := ((Keeps.refl [] w3).alloc (.cells #[pV b1, pV b2] 38)).alloc (rtO tFun 0 (.slice (some ⟨w3.heap.size, 0, none⟩) 2 2))
    refine bodyPost_ret (v := pV (w3.heap.size + 1)) (by simp [results, Tryd.results30, go_sem]) rfl ⟨HK3.out.trans (hkk.kt (by simp)), _, rfl, HC3.out.keep hkk, rmk_arr HV3.out HW3.out⟩
  · have hrs2 := HR1.out
    simp only [ha, if_false] at hrs2
    obtain rfl : res = .ok (q1, ts1) := by simpa using hrs2.symm
    clear hrs2
    go_wp2_with fail
    refine (rtake_no HC1.out.rc .arrow _ rfl ha).mono ?_
    rintro e w2 ⟨rfl, hk⟩
    have HC2 := Lib.hid (HC1.out.keep hk)
    have HK2 := Lib.hid (HK1.out.trans (hk.kt (by simp)))
    have HV2 := Lib.hid (hk.kr.ty HV1.out)
    clear hk ha
    go_wp2
    go_ret
    exact ⟨HK2.out, _, rfl, HC2.out, HV2.out⟩

set_option maxRecDepth 100000 in
set_option maxHeartbeats 4000000 in
theorem rone_int (B r nb n : Nat) (ih : RArrIH B r nb n) (ns : List Bytes) (ts : List Tok) (w0 : World) (res : Except Nat ((Ty × List Bytes) × List Tok)) (hC0 : RTC B r nb ns ts w0) (h1 : headKind ts = .kInt)
    (hres : pOne (n + 1) ns ts = some res) : Calls Tryd.prog 56 #[pV r, pV nb] w0 (RTPost B r nb ns w0 res) := by
  unfold pOne at hres
  simp only [h1, reduceCtorEq, if_true, if_false] at hres
  have HC0 := Lib.hid hC0
  have HK0 := Lib.hid (KT.refl B r nb w0)
  have HR0 := Lib.hid hres
  have HI := Lib.hid ih
  clear hC0 hres ih
  go_enter Tryd.func56, Tryd.ntmps56
  go_wp2_with fail
  refine (rtake_yes HC0.out.rc .kInt _ rfl h1).mono ?_
  rintro e w1 ⟨rfl, hrc, hk, _⟩
  obtain ⟨hC, hkt⟩ := HC0.out.take hk (hrc (by decide) (by decide))
  have HC1 := Lib.hid hC
  have HK1 := Lib.hid (HK0.out.trans hkt)
  clear hrc hk hC hkt HC0 HK0
  obtain rfl : res = .ok ((.int, ns), adv ts) := by have := HR0.out; simpa using this.symm
  go_wp2
  have hkk := (Keeps.refl [] w1).alloc (rtO tInt 0 (.slice none 0 0))
  refine bodyPost_ret (v := pV w1.heap.size) (by simp [results, Tryd.results56, go_sem]) rfl ⟨HK1.out.trans (hkk.kt (by simp)), _, rfl, HC1.out.keep hkk, _, rfl, block_alloc _ _⟩

set_option maxRecDepth 100000 in
set_option maxHeartbeats 4000000 in
theorem rone_bool (B r nb n : Nat) (ih : RArrIH B r nb n) (ns : List Bytes) (ts : List Tok) (w0 : World) (res : Except Nat ((Ty × List Bytes) × List Tok)) (hC0 : RTC B r nb ns ts w0) (h1 : headKind ts = .kBool)
    (hres : pOne (n + 1) ns ts = some res) : Calls Tryd.prog 56 #[pV r, pV nb] w0 (RTPost B r nb ns w0 res) := by
  unfold pOne at hres
  simp only [h1, reduceCtorEq, if_true, if_false] at hres
  have HC0 := Lib.hid hC0
  have HK0 := Lib.hid (KT.refl B r nb w0)
  have HR0 := Lib.hid hres
  have HI := Lib.hid ih
  clear hC0 hres ih
  go_enter Tryd.func56, Tryd.ntmps56
  go_wp2_with fail
  refine (rtake_no HC0.out.rc .kInt _ rfl (by rw [h1]; decide)).mono ?_
  rintro e w1 ⟨rfl, hk⟩
  have HC1 := Lib.hid (HC0.out.keep hk)
  have HK1 := Lib.hid (HK0.out.trans (hk.kt (by simp)))
  clear hk HC0 HK0
  go_wp2_with fail
  refine (rtake_yes HC1.out.rc .kBool _ rfl h1).mono ?_
  rintro e w2 ⟨rfl, hrc, hk, _⟩
  obtain ⟨hC, hkt⟩ := HC1.out.take hk (hrc (by decide) (by decide))
  have HC2 := Lib.hid hC
  have HK2 := Lib.hid (HK1.out.trans hkt)
  clear hrc hk hC hkt HC1 HK1
  obtain rfl : res = .ok ((.bool, ns), adv ts) := by have := HR0.out; simpa using this.symm
  go_wp2
  have hkk := (Keeps.refl [] w2).alloc (rtO tBool 0 (.slice none 0 0))
  refine bodyPost_ret (v := pV w2.heap.size) (by simp [results, Tryd.results56, go_sem]) rfl ⟨HK2.out.trans (hkk.kt (by simp)), _, rfl, HC2.out.keep hkk, _, rfl, block_alloc _ _⟩

set_option maxRecDepth 100000 in
set_option maxHeartbeats 4000000 in
theorem rone_list (B r nb n : Nat) (ih : RArrIH B r nb n) (ns : List Bytes) (ts : List Tok) (w0 : World) (res : Except Nat ((Ty × List Bytes) × List Tok)) (hC0 : RTC B r nb ns ts w0) (h1 : headKind ts = .lbr)
    (hres : pOne (n + 1) ns ts = some res) : Calls Tryd.prog 56 #[pV r, pV nb] w0 (RTPost B r nb ns w0 res) := by
  unfold pOne at hres
  simp only [h1, reduceCtorEq, if_true, if_false] at hres
  have HC0 := Lib.hid hC0
  have HB := Lib.hid hC0.br
  have HK0 := Lib.hid (KT.refl B r nb w0)
  have HR0 := Lib.hid hres
  have HI := Lib.hid ih
  clear hC0 hres ih
  go_enter Tryd.func56, Tryd.ntmps56
  go_wp2_with fail
  refine (rtake_no HC0.out.rc .kInt _ rfl (by rw [h1]; decide)).mono ?_
  rintro e w1 ⟨rfl, hk⟩
  have HC1 := Lib.hid (HC0.out.keep hk)
  have HK1 := Lib.hid (HK0.out.trans (hk.kt (by simp)))
  clear hk HC0 HK0
  go_wp2_with fail
  refine (rtake_no HC1.out.rc .kBool _ rfl (by rw [h1]; decide)).mono ?_
  rintro e w2 ⟨rfl, hk⟩
  have HC2 := Lib.hid (HC1.out.keep hk)
  have HK2 := Lib.hid (HK1.out.trans (hk.kt (by simp)))
  clear hk HC1 HK1
  go_wp2_with fail
  refine (rtake_yes HC2.out.rc .lbr _ rfl h1).mono ?_
  rintro e w3 ⟨rfl, hrc, hk, _⟩
  obtain ⟨hC, hkt⟩ := HC2.out.take hk (hrc (by decide) (by decide))
  have HC3 := Lib.hid hC
  have HK3 := Lib.hid (HK2.out.trans hkt)
  clear hrc hk hC hkt HC2 HK2
  go_wp2_with fail
  rcases bind_some HR0.out with ⟨p, hp, rfl⟩ | ⟨q1, ts2, hp, hrs⟩
  · refine (HI.out _ _ _ _ HC3.out hp).mono ?_
    rintro e w4 ⟨hk, b1, rfl, ts', hrc⟩
    have HK4 := Lib.hid (HK3.out.trans hk)
    have HS4 := Lib.hid (show RSt r (.error p) w4 from ⟨ts', hrc⟩)
    clear hk hrc hp
    go_wp2_with fail
    refine (rneed_st HS4.out .rbr _ rfl (by decide) (by decide)).mono ?_
    rintro e w5 ⟨y5, rfl, hst, hk, _⟩
    have HS5 := Lib.hid (show RSt r (.error p) w5 from hst)
    have HK5 := Lib.hid (HK4.out.trans (hk.kt (by simpa using HB.out)))
    clear hst hk
    go_wp2
    have hkk := ((Keeps.refl [] w5).alloc (.cells #[pV b1] 38)).alloc (rtO tList 0 (.slice (some ⟨w5.heap.size, 0, none⟩) 1 1))
    exact bodyPost_ret (v := pV (w5.heap.size + 1)) (by simp [results, Tryd.results56, go_sem]) rfl ⟨HK5.out.trans (hkk.kt (by simp)), _, rfl, HS5.out.keep hkk⟩
  refine (HI.out _ _ _ _ HC3.out hp).mono ?_
  rintro e w4 ⟨hk, b1, rfl, hC, hv⟩
  have HC4 := Lib.hid hC
  have HK4 := Lib.hid (HK3.out.trans hk)
  have HR1 := Lib.hid hrs
  have HV4 := Lib.hid hv
  clear hC hk hrs hp hv HC3 HK3
  go_wp2_with fail
  rcases want_cases HR1.out with ⟨hne, rfl⟩ | ⟨heq, hrs⟩
  · refine (rneed_no HC4.out.rc .rbr _ rfl hne).mono ?_
    rintro e w5 ⟨⟨y5, rfl⟩, hrc, hk⟩
    have HS5 := Lib.hid (show RSt r (.error (headPos ts2)) w5 from ⟨_, hrc⟩)
    have HK5 := Lib.hid (HK4.out.trans (hk.kt (by simpa using HC4.out.br)))
    clear hrc hk
    go_wp2
    have hkk := ((Keeps.refl [] w5).alloc (.cells #[pV b1] 38)).alloc (rtO tList 0 (.slice (some ⟨w5.heap.size, 0, none⟩) 1 1))
    exact bodyPost_ret (v := pV (w5.heap.size + 1)) (by simp [results, Tryd.results56, go_sem]) rfl ⟨HK5.out.trans (hkk.kt (by simp)), _, rfl, HS5.out.keep hkk⟩
  refine (rneed_yes HC4.out.rc .rbr _ rfl heq (by decide)).mono ?_
  rintro e w5 ⟨rfl, hrc, hk, _⟩
  obtain ⟨hC, hkt⟩ := HC4.out.take hk (hrc (by decide))
  have HC5 := Lib.hid hC
  have HK5 := Lib.hid (HK4.out.trans hkt)
  have HV5 := Lib.hid ((hkt.kr HC4.out).ty HV4.out)
  clear hrc hk hC hkt heq HC4 HK4
  obtain rfl : res = .ok ((.list q1.1, q1.2), adv ts2) := by simpa using hrs.symm
  clear hrs
  go_wp2
  have hkk := ((Keeps.refl [] w5).alloc (.cells #[pV b1] 38)).alloc (rtO tList 0 (.slice (some ⟨w5.heap.size, 0, none⟩) 1 1))
  exact bodyPost_ret (v := pV (w5.heap.size + 1)) (by simp [results, Tryd.results56, go_sem]) rfl ⟨HK5.out.trans (hkk.kt (by simp)), _, rfl, HC5.out.keep hkk, rmk_one HV5.out⟩

set_option maxRecDepth 100000 in
set_option maxHeartbeats 4000000 in
theorem rone_par (B r nb n : Nat) (ih : RArrIH B r nb n) (ns : List Bytes) (ts : List Tok) (w0 : World) (res : Except Nat ((Ty × List Bytes) × List Tok)) (hC0 : RTC B r nb ns ts w0) (h1 : headKind ts = .lpar)
    (hres : pOne (n + 1) ns ts = some res) : Calls Tryd.prog 56 #[pV r, pV nb] w0 (RTPost B r nb ns w0 res) := by
  unfold pOne at hres
  simp only [h1, reduceCtorEq, if_true, if_false] at hres
  have HC0 := Lib.hid hC0
  have HB := Lib.hid hC0.br
  have HK0 := Lib.hid (KT.refl B r nb w0)
  have HR0 := Lib.hid hres
  have HI := Lib.hid ih
  clear hC0 hres ih
  go_enter Tryd.func56, Tryd.ntmps56
  go_wp2_with fail
  refine (rtake_no HC0.out.rc .kInt _ rfl (by rw [h1]; decide)).mono ?_
  rintro e w1 ⟨rfl, hk⟩
  have HC1 := Lib.hid (HC0.out.keep hk)
  have HK1 := Lib.hid (HK0.out.trans (hk.kt (by simp)))
  clear hk HC0 HK0
  go_wp2_with fail
  refine (rtake_no HC1.out.rc .kBool _ rfl (by rw [h1]; decide)).mono ?_
  rintro e w2 ⟨rfl, hk⟩
  have HC2 := Lib.hid (HC1.out.keep hk)
  have HK2 := Lib.hid (HK1.out.trans (hk.kt (by simp)))
  clear hk HC1 HK1
  go_wp2_with fail
  refine (rtake_no HC2.out.rc .lbr _ rfl (by rw [h1]; decide)).mono ?_
  rintro e w3 ⟨rfl, hk⟩
  have HC3 := Lib.hid (HC2.out.keep hk)
  have HK3 := Lib.hid (HK2.out.trans (hk.kt (by simp)))
  clear hk HC2 HK2
  go_wp2_with fail
  refine (rtake_yes HC3.out.rc .lpar _ rfl h1).mono ?_
  rintro e w4 ⟨rfl, hrc, hk, _⟩
  obtain ⟨hC, hkt⟩ := HC3.out.take hk (hrc (by decide) (by decide))
  have HC4 := Lib.hid hC
  have HK4 := Lib.hid (HK3.out.trans hkt)
  clear hrc hk hC hkt HC3 HK3
  go_wp2_with fail
  rcases bind_some HR0.out with ⟨p, hp, rfl⟩ | ⟨q1, ts2, hp, hrs⟩
  · refine (HI.out _ _ _ _ HC4.out hp).mono ?_
    rintro e w5 ⟨hk, b1, rfl, ts', hrc⟩
    have HK5 := Lib.hid (HK4.out.trans hk)
    have HS5 := Lib.hid (show RSt r (.error p) w5 from ⟨ts', hrc⟩)
    clear hk hrc hp
    go_wp2_with fail
    refine (rtake_st HS5.out .comma _ rfl (fun ts' h => by cases h)).mono ?_
    rintro e w6 ⟨rfl, hk⟩
    have HS6 := Lib.hid (HS5.out.keep hk)
    have HK6 := Lib.hid (HK5.out.trans (hk.kt (by simp)))
    clear hk
    go_wp2_with fail
    refine (rneed_st HS6.out .rpar _ rfl (by decide) (by decide)).mono ?_
    rintro e w7 ⟨y7, rfl, hst, hk, _⟩
    have HS7 := Lib.hid (show RSt r (.error p) w7 from hst)
    have HK7 := Lib.hid (HK6.out.trans (hk.kt (by simpa using HB.out)))
    clear hst hk
    go_wp2
    go_ret
    exact ⟨HK7.out, _, rfl, HS7.out⟩
  refine (HI.out _ _ _ _ HC4.out hp).mono ?_
  rintro e w5 ⟨hk, b1, rfl, hC, hv⟩
  have HC5 := Lib.hid hC
  have HK5 := Lib.hid (HK4.out.trans hk)
  have HR1 := Lib.hid hrs
  have HV5 := Lib.hid hv
  clear hC hk hrs hp hv HC4 HK4
  by_cases hcm : headKind ts2 = .comma
  · have hrs2 := HR1.out
    simp only [hcm, if_true] at hrs2
    have HR2 := Lib.hid hrs2
    clear hrs2
    go_wp2_with fail
    refine (rtake_yes HC5.out.rc .comma _ rfl hcm).mono ?_
    rintro e w6 ⟨rfl, hrc, hk, _⟩
    obtain ⟨hC, hkt⟩ := HC5.out.take hk (hrc (by decide) (by decide))
    have HC6 := Lib.hid hC
    have HK6 := Lib.hid (HK5.out.trans hkt)
    have HV6 := Lib.hid ((hkt.kr HC5.out).ty HV5.out)
    clear hrc hk hC hkt hcm HC5 HK5
    go_wp2_with fail
    rcases bind_some HR2.out with ⟨p, hp, rfl⟩ | ⟨q2, ts4, hp, hrs⟩
    · refine (HI.out _ _ _ _ HC6.out hp).mono ?_
      rintro e w7 ⟨hk, b2, rfl, ts', hrc⟩
      have hkk := ((Keeps.refl [] w7).alloc (.cells #[pV b1, pV b2] 38)).alloc (rtO tPair 0 (.slice (some ⟨w7.heap.size, 0, none⟩) 2 2))
      have HK8 := Lib.hid ((HK6.out.trans hk).trans (hkk.kt (by simp)))
      have HS8 := Lib.hid ((show RSt r (.error p) w7 from ⟨ts', hrc⟩).keep hkk)
      clear hk hrc hp hkk
      go_wp2_with fail
      refine (rneed_st HS8.out .rpar _ rfl (by decide) (by decide)).mono ?_
      rintro e w9 ⟨y9, rfl, hst, hk, _⟩
      have HS9 := Lib.hid (show RSt r (.error p) w9 from hst)
      have HK9 := Lib.hid (HK8.out.trans (hk.kt (by simpa using HB.out)))
      clear hst hk
      go_wp2
      go_ret
      exact ⟨HK9.out, _, rfl, HS9.out⟩
    refine (HI.out _ _ _ _ HC6.out hp).mono ?_
    rintro e w7 ⟨hk, b2, rfl, hC, hv⟩
    have hkk := ((Keeps.refl [] w7).alloc (.cells #[pV b1, pV b2] 38)).alloc (rtO tPair 0 (.slice (some ⟨w7.heap.size, 0, none⟩) 2 2))
    have HC8 := Lib.hid (hC.keep hkk)
    have HK8 := Lib.hid ((HK6.out.trans hk).trans (hkk.kt (by simp)))
    have HR3 := Lib.hid hrs
    have HV8 := Lib.hid (rmk_pair ((hk.kr HC6.out).ty HV6.out) hv)
    clear hC hk hrs hp hv hkk HC6 HK6
    go_wp2_with fail
    rcases want_cases HR3.out with ⟨hne, rfl⟩ | ⟨heq, hrs⟩
    · refine (rneed_no HC8.out.rc .rpar _ rfl hne).mono ?_
      rintro e w9 ⟨⟨y9, rfl⟩, hrc, hk⟩
      have HS9 := Lib.hid (show RSt r (.error (headPos ts4)) w9 from ⟨_, hrc⟩)
      have HK9 := Lib.hid (HK8.out.trans (hk.kt (by simpa using HC8.out.br)))
      clear hrc hk
      go_wp2
      go_ret
      exact ⟨HK9.out, _, rfl, HS9.out⟩
    refine (rneed_yes HC8.out.rc .rpar _ rfl heq (by decide)).mono ?_
    rintro e w9 ⟨rfl, hrc, hk, _⟩
    obtain ⟨hC, hkt⟩ := HC8.out.take hk (hrc (by decide))
    have HC9 := Lib.hid hC
    have HK9 := Lib.hid (HK8.out.trans hkt)
    have HV9 := Lib.hid ((hkt.kr HC8.out).ty HV8.out)
    clear hrc hk hC hkt heq HC8 HK8
    obtain rfl : res = .ok ((.pair q1.1 q2.1, q2.2), adv ts4) := by simpa using hrs.symm
    clear hrs
    go_wp2
    go_ret
    exact ⟨HK9.out, _, rfl, HC9.out, HV9.out⟩
  · have hrs2 := HR1.out
    simp only [hcm, if_false] at hrs2
    have HR2 := Lib.hid hrs2
    clear hrs2
    go_wp2_with fail
    refine (rtake_no HC5.out.rc .comma _ rfl hcm).mono ?_
    rintro e w6 ⟨rfl, hk⟩
    have HC6 := Lib.hid (HC5.out.keep hk)
    have HK6 := Lib.hid (HK5.out.trans (hk.kt (by simp)))
    have HV6 := Lib.hid (hk.kr.ty HV5.out)
    clear hk hcm HC5 HK5
    go_wp2_with fail
    rcases want_cases HR2.out with ⟨hne, rfl⟩ | ⟨heq, hrs⟩
    · refine (rneed_no HC6.out.rc .rpar _ rfl hne).mono ?_
      rintro e w7 ⟨⟨y7, rfl⟩, hrc, hk⟩
      have HS7 := Lib.hid (show RSt r (.error (headPos ts2)) w7 from ⟨_, hrc⟩)
      have HK7 := Lib.hid (HK6.out.trans (hk.kt (by simpa using HC6.out.br)))
      clear hrc hk
      go_wp2
      go_ret
      exact ⟨HK7.out, _, rfl, HS7.out⟩
    refine (rneed_yes HC6.out.rc .rpar _ rfl heq (by decide)).mono ?_
    rintro e w7 ⟨rfl, hrc, hk, _⟩
    obtain ⟨hC, hkt⟩ := HC6.out.take hk (hrc (by decide))
    have HC7 := Lib.hid hC
    have HK7 := Lib.hid (HK6.out.trans hkt)
    have HV7 := Lib.hid ((hkt.kr HC6.out).ty HV6.out)
    clear hrc hk hC hkt heq HC6 HK6
    obtain rfl : res = .ok (q1, adv ts2) := by simpa using hrs.symm
    clear hrs
    go_wp2
    go_ret
    exact ⟨HK7.out, _, rfl, HC7.out, HV7.out⟩

set_option maxRecDepth 100000 in
set_option maxHeartbeats 4000000 in
theorem rone_name (B r nb n : Nat) (ih : RArrIH B r nb n) (ns : List Bytes) (ts : List Tok) (w0 : World) (res : Except Nat ((Ty × List Bytes) × List Tok)) (hC0 : RTC B r nb ns ts w0) (h1 : headKind ts ≠ .kInt) (h2 : headKind ts ≠ .kBool) (h3 : headKind ts ≠ .lbr) (h4 : headKind ts ≠ .lpar)
    (hres : pOne (n + 1) ns ts = some res) : Calls Tryd.prog 56 #[pV r, pV nb] w0 (RTPost B r nb ns w0 res) := by
  unfold pOne at hres
  simp only [h1, h2, h3, h4, if_false] at hres
  have HC0 := Lib.hid hC0
  have HK0 := Lib.hid (KT.refl B r nb w0)
  have HR0 := Lib.hid hres
  have HI := Lib.hid ih
  clear hC0 hres ih
  go_enter Tryd.func56, Tryd.ntmps56
  go_wp2_with fail
  refine (rtake_no HC0.out.rc .kInt _ rfl h1).mono ?_
  rintro e w1 ⟨rfl, hk⟩
  have HC1 := Lib.hid (HC0.out.keep hk)
  have HK1 := Lib.hid (HK0.out.trans (hk.kt (by simp)))
  clear hk HC0 HK0
  go_wp2_with fail
  refine (rtake_no HC1.out.rc .kBool _ rfl h2).mono ?_
  rintro e w2 ⟨rfl, hk⟩
  have HC2 := Lib.hid (HC1.out.keep hk)
  have HK2 := Lib.hid (HK1.out.trans (hk.kt (by simp)))
  clear hk HC1 HK1
  go_wp2_with fail
  refine (rtake_no HC2.out.rc .lbr _ rfl h3).mono ?_
  rintro e w3 ⟨rfl, hk⟩
  have HC3 := Lib.hid (HC2.out.keep hk)
  have HK3 := Lib.hid (HK2.out.trans (hk.kt (by simp)))
  clear hk HC2 HK2
  go_wp2_with fail
  refine (rtake_no HC3.out.rc .lpar _ rfl h4).mono ?_
  rintro e w4 ⟨rfl, hk⟩
  have HC4 := Lib.hid (HC3.out.keep hk)
  have HK4 := Lib.hid (HK3.out.trans (hk.kt (by simp)))
  clear hk HC3 HK3
  go_wp2_with fail
  refine (rneed_st (s := .ok ts) HC4.out.rc .name _ rfl (by decide) (by decide)).mono ?_
  rintro e w5 ⟨x, rfl, hst, hk, hx⟩
  obtain ⟨cs, ho⟩ := HC4.out.rc.obj
  have HS5 := Lib.hid hst
  have HK5 := Lib.hid (HK4.out.trans (hk.kt (by simpa using HC4.out.br)))
  have hnm := HC4.out.nm.keep hk ho (by simp) (by simp)
  have HN5 := Lib.hid hnm
  have HX := Lib.hid hx
  have hfew := HC4.out.few
  have hbs : B ≤ w5.heap.size := Nat.le_trans HC4.out.hb hk.size
  obtain ⟨sv, hbx, hown⟩ := hnm
  obtain ⟨ad, cap, rfl, hcell⟩ := ownsRow_shape hown
  have HCE := Lib.hid hcell
  have c0 : w5.cell? ⟨nb, 0, none⟩ = some (.slice ad ns.length cap) := by
    have := cell_of_block hbx 0
    simpa using this
  have f0 : w5.frozen? ⟨nb, 0, none⟩ = false := free_of_block hbx 0
  have HOW := Lib.hid hown
  have HBX := Lib.hid hbx
  clear hst hk hx hcell hown hbx ho h1 h2 h3 h4
  go_wp2_with fail
  go_loopg [56] ns.length (fun gg i wx => ∃ j : Nat, gg = ns.length - j ∧ i = .int .i64 j ∧ j ≤ ns.length ∧ (∀ q, q < j → ns[q]? ≠ some x) ∧ w5 = wx)
  case atStart => exact ⟨0, rfl, rfl, by omega, fun q hq => by omega, rfl⟩
  case round =>
    obtain ⟨j, hgj, rfl, hj, hnq, rfl⟩ := hrel
    have HGJ := Lib.hid hgj
    have HNQ := Lib.hid hnq
    clear hgj hnq
    by_cases hlt : j < ns.length
    · obtain ⟨g, rfl, hc⟩ := HCE.out j (by simpa using hlt)
      rw [List.getElem?_map, List.getElem?_eq_getElem hlt] at hc
      simp only [Option.map_some] at hc
      have hdl : decide ((j : Int) < (ns.length : Int)) = true := by simpa using hlt
      by_cases he : ns[j] = x
      · have hq : ((bs ns[j]).toList == (bs x).toList) = true := by rw [bs_beq]; simpa using he
        have HE := Lib.hid he
        clear he
        go_wp2
        have hkk := (Keeps.refl [] w5).alloc (rtO [] j (.slice none 0 0))
        refine bodyPost_ret (v := pV w5.heap.size) (by simp [results, Tryd.results56, go_sem]) rfl ⟨HK5.out.trans (hkk.kt (by simp)), _, rfl, ?_⟩
        have hidx : ns.idxOf x = j := by
          exact idx_first (by rw [List.getElem?_eq_getElem hlt, HE.out]) HNQ.out
        have hmem : x ∈ ns := by rw [← HE.out]; exact List.getElem_mem hlt
        have hS := HS5.out
        simp only [wantS] at hS
        by_cases hkn : headKind ts = .name
        · have hxx := HX.out ts rfl hkn
          rw [if_pos hkn] at hS
          obtain rfl : res = .ok ((.var (ns.idxOf x), ns), adv ts) := by
            have hr := HR0.out
            rw [want_ok hkn, bind_ok, ← hxx] at hr
            simpa [addName, hmem] using hr.symm
          rw [hidx]
          refine ⟨⟨RC.keep hS hkk, HN5.out.keep0 hkk, HC4.out.br, HC4.out.bn, Nat.le_trans hbs hkk.size, by have := adv_le ts; simp only; omega, HC4.out.ne⟩, _, rfl, block_alloc _ _⟩
        · rw [if_neg hkn] at hS
          obtain rfl : res = .error (headPos ts) := by
            have hr := HR0.out
            simp only [want, if_neg hkn, Res.bind] at hr
            simpa using hr.symm
          obtain ⟨ts', hS⟩ := hS
          exact ⟨ts', hS.keep hkk⟩
      · have hq : ((bs ns[j]).toList == (bs x).toList) = false := by rw [bs_beq]; simpa using he
        go_wp2_with fail
        go_roundg (ns.length - (j + 1))
        case measure => have := HGJ.out; omega
        case rel =>
          refine ⟨j + 1, rfl, by go_num, by omega, fun q hq' => ?_, rfl⟩
          rcases Nat.lt_or_eq_of_le (Nat.le_of_lt_succ hq') with h | rfl
          · exact HNQ.out q h
          · rw [List.getElem?_eq_getElem hlt]; simpa using he
    · have hdl : decide ((j : Int) < (ns.length : Int)) = false := by simpa using hlt
      have hni : x ∉ ns := by
        intro hm
        obtain ⟨q, hq, hqe⟩ := List.getElem_of_mem hm
        exact HNQ.out q (by omega) (by rw [List.getElem?_eq_getElem hq, hqe])
      have HNI := Lib.hid hni
      clear hni hdl
      clear HNQ
      obtain ⟨ib, hib, hib0, hib1, hib2⟩ := info_parts infoStr
      go_wp2_with (at_builtin; go_must (refine wpList_append_lies _ rfl _ _ 39 rfl B 9 ib (.string ⟨#[]⟩) 1 16 Tryd.underlying39 hib hib0 hib1 hib2 rfl (by decide) _ _ _ rfl (HOW.out.alloc _) ⟨w5.heap.size, 0, none⟩ 1 1 [.string (bs x)] rfl rfl ?c1 ?c2 (by decide) ?c3 ?c4 ?c5 _ rfl ?_))
      case c1 => exact cells_new w5 [.string (bs x)] 9
      case c2 => intro u hu; simp at hu; subst hu; rfl
      case c3 => unfold maxLen; omega
      case c4 => omega
      case c5 => simp; omega
      intro g cp w6 hown6 hgr6 hlg6 hlt6
      obtain ⟨hpn, hpk⟩ := RNm.push (r := r) x HBX.out HOW.out HC4.out.bn hbs hown6 hgr6
      have hnb6 : w6.heap[nb]? = some (.cells #[.slice ad ns.length cap] 39 (0, 0)) := by
        rw [hgr6.block nb (by have := lt_of_some HBX.out; simp; omega) (ownsRow_ne HOW.out HBX.out (by decide))]
        exact block_alloc_old HBX.out
      have c6 : w6.cell? ⟨nb, 0, none⟩ = some (.slice ad ns.length cap) := by
        have := cell_of_block hnb6 0
        simpa using this
      have f6 : w6.frozen? ⟨nb, 0, none⟩ = false := free_of_block hnb6 0
      have HPN := Lib.hid hpn
      have HPK := Lib.hid (HK5.out.trans hpk)
      have HPR := Lib.hid (show Keeps [] w5 w5 from Keeps.refl _ _)
      have hsz6 := hgr6.size
      have hrc7 : RSt r (wantS Kind.name (.ok ts)) (w6.setCell ⟨nb, 0, none⟩ (.slice (some ⟨g, 0, none⟩) (ns.length + 1) cp)) := by
        obtain ⟨cs, ho⟩ : ∃ cs, w5.heap[r]? = some (.cells cs 71 (0, 0)) := by
          have hS := HS5.out
          cases hw : wantS Kind.name (.ok ts) with
          | ok ts' => rw [hw] at hS; exact RC.obj hS
          | error p => rw [hw] at hS; obtain ⟨ts', hS⟩ := hS; exact hS.obj
        refine HS5.out.far hpk.size ?_ fun g0 cur z hg0 => ?_
        · rw [ho]
          refine block_setCell_other ?_ _ _ HC4.out.ne
          rw [hgr6.block r (by have := lt_of_some ho; simp; omega) (ownsRow_ne HOW.out ho (by decide))]
          exact block_alloc_old ho
        · rw [hg0]
          refine hpk.block g0 _ hg0 ?_ ?_ (by simp)
          · rintro rfl; rw [ho] at hg0; cases hg0
          · rintro rfl; rw [HBX.out] at hg0; cases hg0
      have HS7 := Lib.hid hrc7
      clear hown6 hgr6 hlg6 hlt6 hpn hpk hnb6 hrc7 c0 f0 HPR
      go_wp2
      have hkk := (Keeps.refl [] (w6.setCell ⟨nb, 0, none⟩ (.slice (some ⟨g, 0, none⟩) (ns.length + 1) cp))).alloc (rtO [] ns.length (.slice none 0 0))
      have hb8 := block_alloc (w6.setCell ⟨nb, 0, none⟩ (.slice (some ⟨g, 0, none⟩) (ns.length + 1) cp)) (rtO [] ns.length (.slice none 0 0))
      have hs8 : (w6.setCell ⟨nb, 0, none⟩ (.slice (some ⟨g, 0, none⟩) (ns.length + 1) cp)).heap.size = w6.heap.size := by simp [World.setCell]
      rw [hs8] at hb8
      refine bodyPost_ret (v := pV w6.heap.size) (by simp [results, Tryd.results56, go_sem]) rfl ⟨HPK.out.trans (hkk.kt (by simp)), _, rfl, ?_⟩
      have hS := HS7.out
      simp only [wantS] at hS
      by_cases hkn : headKind ts = .name
      · have hxx := HX.out ts rfl hkn
        rw [if_pos hkn] at hS
        obtain rfl : res = .ok ((.var ns.length, ns ++ [x]), adv ts) := by
          have hr := HR0.out
          rw [want_ok hkn, bind_ok, ← hxx] at hr
          have hni := HNI.out
          simpa [addName, hni, List.idxOf_eq_length hni] using hr.symm
        have hlen := (adv_kind HC4.out.rc.wf hkn (by decide) (by decide)).2.1
        refine ⟨⟨RC.keep hS hkk, HPN.out.keep0 hkk, HC4.out.br, HC4.out.bn, ?_, by simp only [List.length_append, List.length_cons, List.length_nil]; omega, HC4.out.ne⟩, _, rfl, hb8⟩
        simp at hsz6 ⊢; omega
      · rw [if_neg hkn] at hS
        obtain rfl : res = .error (headPos ts) := by
          have hr := HR0.out
          simp only [want, if_neg hkn, Res.bind] at hr
          simpa using hr.symm
        obtain ⟨ts', hS⟩ := hS
        exact ⟨ts', hS.keep hkk⟩

theorem rtypes (B r nb : Nat) : ∀ n, RArrIH B r nb n ∧ ROneIH B r nb n := by
  intro n
  induction n with
  | zero => exact ⟨fun ns ts w res _ h => by simp [pWhole] at h, fun ns ts w res _ h => by simp [pOne] at h⟩
  | succ n ih =>
    refine ⟨rarrow_any B r nb n ih.1 ih.2, fun ns ts w res h hres => ?_⟩
    by_cases h1 : headKind ts = .kInt
    · exact rone_int B r nb n ih.1 ns ts w res h h1 hres
    by_cases h2 : headKind ts = .kBool
    · exact rone_bool B r nb n ih.1 ns ts w res h h2 hres
    by_cases h3 : headKind ts = .lbr
    · exact rone_list B r nb n ih.1 ns ts w res h h3 hres
    by_cases h4 : headKind ts = .lpar
    · exact rone_par B r nb n ih.1 ns ts w res h h4 hres
    exact rone_name B r nb n ih.1 ns ts w res h h1 h2 h3 h4 hres
end Go.Proofs.YtpbplpnifjbkoaaDoor

namespace Go.Proofs.YtpbplpnifjbkoaaDoor
open Go.RowKit

def varN : Ty → Nat
  | .var n => n
  | _ => 0
/-- The cells of a row of which nothing is known where it is empty. -/
def RRowC (w : World) (ad : Option Addr) (vs : List Value) : Prop := ∀ (j : Nat) v, vs[j]? = some v → ∃ g cs, ad = some ⟨g, 0, none⟩ ∧ w.heap[g]? = some (.cells cs 38 (0, 0)) ∧ cs[j]? = some v
theorem RRowC.cell {w : World} {ad : Option Addr} {vs : List Value} (h : RRowC w ad vs) {j : Nat} {v : Value} (hv : vs[j]? = some v) : ∃ g, ad = some ⟨g, 0, none⟩ ∧ w.cell? ⟨g, j, none⟩ = some v := by
  obtain ⟨g, cs, h1, h2, h3⟩ := h j v hv
  exact ⟨g, h1, (cell_of_block h2 j).trans h3⟩
theorem RRow.c {w : World} {sv : Value} {vs : List Value} (h : RRow w sv vs) : ∃ ad cap, sv = .slice ad vs.length cap ∧ RRowC w ad vs := by
  obtain ⟨g, cap, cs, h1, h2, h3⟩ := h
  exact ⟨_, cap, h1, fun j v hv => ⟨g, cs, rfl, h2, h3 j v hv⟩⟩
def RKids (w : World) (ts : List Ty) (vs : List Value) : Prop := vs.length = ts.length ∧ ∀ (j : Nat) t v, ts[j]? = some t → vs[j]? = some v → RTy w t v
theorem RKids.nil {w : World} : RKids w [] [] := ⟨rfl, fun j t v h => by simp at h⟩
theorem RKids.one {w : World} {a : Ty} {va : Value} (h : RTy w a va) : RKids w [a] [va] := ⟨rfl, fun j t v h1 h2 => by
  cases j with
  | zero => simp at h1 h2; subst h1; subst h2; exact h
  | succ j => simp at h1⟩
theorem RKids.two {w : World} {a b : Ty} {va vb : Value} (h : RTy w a va) (h' : RTy w b vb) : RKids w [a, b] [va, vb] := ⟨rfl, fun j t v h1 h2 => by
  match j with
  | 0 => simp at h1 h2; subst h1; subst h2; exact h
  | 1 => simp at h1 h2; subst h1; subst h2; exact h'
  | j + 2 => simp at h1⟩
theorem RTy.node {w : World} {t : Ty} {v : Value} (h : RTy w t v) : ∃ b ad cap vs, v = pV b ∧ w.heap[b]? = some (rtO (kindT t) (varN t) (.slice ad vs.length cap)) ∧ RRowC w ad vs ∧ RKids w (kidsT t) vs := by
  cases t with
  | var n => obtain ⟨b, e, h⟩ := h; exact ⟨b, none, 0, [], e, h, fun j v hj => by simp at hj, .nil⟩
  | int => obtain ⟨b, e, h⟩ := h; exact ⟨b, none, 0, [], e, h, fun j v hj => by simp at hj, .nil⟩
  | bool => obtain ⟨b, e, h⟩ := h; exact ⟨b, none, 0, [], e, h, fun j v hj => by simp at hj, .nil⟩
  | list a => obtain ⟨b, sv, va, e, h, h3, h4⟩ := h; obtain ⟨ad, cap, rfl, hr⟩ := h3.c; exact ⟨b, ad, cap, _, e, h, hr, .one h4⟩
  | pair a c => obtain ⟨b, sv, va, vc, e, h, h3, h4, h5⟩ := h; obtain ⟨ad, cap, rfl, hr⟩ := h3.c; exact ⟨b, ad, cap, _, e, h, hr, .two h4 h5⟩
  | arr a c => obtain ⟨b, sv, va, vc, e, h, h3, h4, h5⟩ := h; obtain ⟨ad, cap, rfl, hr⟩ := h3.c; exact ⟨b, ad, cap, _, e, h, hr, .two h4 h5⟩
theorem KR.rowC {w w' : World} (h : KR w w') {ad : Option Addr} {vs : List Value} (hr : RRowC w ad vs) : RRowC w' ad vs := by
  intro j v hj
  obtain ⟨g, cs, h1, h2, h3⟩ := hr j v hj
  exact ⟨g, cs, h1, h _ _ _ _ h2 (.inr rfl), h3⟩
theorem KR.kids {w w' : World} (h : KR w w') {ts : List Ty} {vs : List Value} (hk : RKids w ts vs) : RKids w' ts vs := ⟨hk.1, fun j t v h1 h2 => h.ty (hk.2 j t v h1 h2)⟩

def sumS : List Ty → Nat
  | [] => 0
  | t :: r => t.size + sumS r
theorem sumS_snoc (l : List Ty) (t : Ty) : sumS (l ++ [t]) = sumS l + t.size := by
  induction l with
  | nil => simp [sumS]
  | cons a r ih => simp only [List.cons_append, sumS, ih]; omega
theorem size_kids (t : Ty) : t.size = 1 + sumS (kidsT t) := by cases t <;> simp only [Ty.size, kidsT, sumS] <;> omega
theorem sumS_take (l : List Ty) (j : Nat) : sumS (l.take j) ≤ sumS l := by
  induction l generalizing j with
  | nil => simp [sumS]
  | cons a r ih =>
    cases j with
    | zero => simp [sumS]
    | succ j => simp only [List.take_succ_cons, sumS]; have := ih j; omega

set_option maxRecDepth 100000 in
set_option maxHeartbeats 4000000 in
theorem rsize_any (n : Nat) (hn : n ≤ 1000000) : ∀ (t : Ty), t.size ≤ n → ∀ (w : World) (v : Value), RTy w t v → Calls Tryd.prog 31 #[v] w fun e w' => e = .returned (.int .i64 t.size) ∧ w = w' := by
  induction n with
  | zero => intro t h; have := t.size_pos; omega
  | succ n ih =>
    intro t ht w v hv
    obtain ⟨b, ad, cap, vs, rfl, hb, hrow, hkids⟩ := hv.node
    have c2 : w.cell? ⟨b, 2, none⟩ = some (.slice ad vs.length cap) := cell_of_block hb 2
    have hlen : vs.length ≤ 2 := by rw [hkids.1]; exact kids_few t
    have hsk := size_kids t
    have HIH := Lib.hid (ih (by omega))
    have HR := Lib.hid hrow
    have HKD := Lib.hid hkids
    have HL := Lib.hid hkids.1
    have HEQ := Lib.hid hsk
    clear hv hb hrow hkids ih
    go_enter Tryd.func31, Tryd.ntmps31
    go_wp2_with fail
    go_loopg [3, 11] vs.length (fun gg m i wx => ∃ j : Nat, gg = vs.length - j ∧ i = .int .i64 j ∧ j ≤ vs.length ∧ m = .int .i64 (1 + sumS ((kidsT t).take j) : Nat) ∧ w = wx)
    case atStart => exact ⟨0, rfl, rfl, by omega, rfl, rfl⟩
    case round =>
      obtain ⟨j, hg, rfl, hj, rfl, rfl⟩ := hrel
      have HG := Lib.hid hg
      have hst := sumS_take (kidsT t) j
      clear hg
      by_cases hlt : j < vs.length
      · have hjk : j < (kidsT t).length := by rw [← HL.out]; exact hlt
        obtain ⟨a, ha⟩ : ∃ a, (kidsT t)[j]? = some a := ⟨_, List.getElem?_eq_getElem hjk⟩
        obtain ⟨va, hva⟩ : ∃ va, vs[j]? = some va := ⟨_, List.getElem?_eq_getElem hlt⟩
        have hta := HKD.out.2 j a va ha hva
        obtain ⟨g, rfl, hcell⟩ := HR.out.cell hva
        have hlt' := kids_lt (List.mem_of_getElem? ha)
        have hsn : sumS ((kidsT t).take (j + 1)) = sumS ((kidsT t).take j) + a.size := by rw [take_next' ha, sumS_snoc]
        have hst2 := sumS_take (kidsT t) (j + 1)
        have HTY := Lib.hid hta
        have hdl : decide ((j : Int) < (vs.length : Int)) = true := by simpa using hlt
        obtain ⟨vb, rfl⟩ := hta.ptr
        have hbd : sumS ((kidsT t).take j) + a.size ≤ 1000000 := by omega
        have HSN := Lib.hid hsn
        generalize sumS ((kidsT t).take j) = m at hbd HSN ⊢
        clear hsn hta ha hva hjk hsk hst hst2
        go_wp2_with fail
        refine (HIH.out a (by omega) _ _ HTY.out).mono ?_
        rintro e w2 ⟨rfl, rfl⟩
        go_wp2_with fail
        go_roundg (vs.length - (j + 1))
        case measure => have := HG.out; omega
        case rel =>
          refine ⟨j + 1, rfl, by go_num, by omega, ?_, rfl⟩
          rw [HSN.out]
          refine congrArg _ ?_
          omega
      · have hdl : decide ((j : Int) < (vs.length : Int)) = false := by simpa using hlt
        have hjl : (kidsT t).take j = kidsT t := List.take_of_length_le (by rw [← HL.out]; omega)
        rw [hjl]
        clear hjl hst hsk
        go_wp2
        go_ret
        refine ⟨?_, rfl⟩
        rw [HEQ.out]
        rfl
end Go.Proofs.YtpbplpnifjbkoaaDoor

namespace Go.Proofs.YtpbplpnifjbkoaaDoor
open Go.RowKit

abbrev iVs (l : List Nat) : List Value := l.map fun (n : Nat) => .int .i64 (n : Int)
theorem infoInt : (Tryd.prog.info? 3).map (fun i => (i.zero, i.size, i.bytes)) = some (some (.int .i64 0), 1, 8) := by kernel_rfl

set_option maxRecDepth 100000 in
theorem rin_any {w : World} {B : Nat} {sv : Value} {l : List Nat} (hown : w.ownsRow B 3 1 sv l.length (iVs l)) (hl : l.length ≤ 100000) (n : Nat) :
    Calls Tryd.prog 57 #[sv, .int .i64 n] w fun e w' => e = .returned (.bool (decide (n ∈ l))) ∧ w = w' := by
  obtain ⟨ad, cap, rfl, hcell⟩ := ownsRow_shape hown
  have HCE := Lib.hid hcell
  clear hcell hown
  go_enter Tryd.func57, Tryd.ntmps57
  go_wp2_with fail
  go_loopg [9] l.length (fun gg i wx => ∃ j : Nat, gg = l.length - j ∧ i = .int .i64 j ∧ j ≤ l.length ∧ (∀ q, q < j → l[q]? ≠ some n) ∧ w = wx)
  case atStart => exact ⟨0, rfl, rfl, by omega, fun q hq => by omega, rfl⟩
  case round =>
    obtain ⟨j, hgj, rfl, hj, hnq, rfl⟩ := hrel
    have HGJ := Lib.hid hgj
    have HNQ := Lib.hid hnq
    clear hgj hnq
    by_cases hlt : j < l.length
    · obtain ⟨g, rfl, hc⟩ := HCE.out j (by simpa using hlt)
      rw [List.getElem?_map, List.getElem?_eq_getElem hlt] at hc
      simp only [Option.map_some] at hc
      have hdl : decide ((j : Int) < (l.length : Int)) = true := by simpa using hlt
      by_cases he : l[j] = n
      · have hm : n ∈ l := by rw [← he]; exact List.getElem_mem hlt
        have HM := Lib.hid hm
        have hd : decide (((l[j] : Nat) : Int) = (n : Int)) = true := by rw [he]; simp
        have hd2 : (((l[j] : Nat) : Int) == (n : Int)) = true := by rw [he]; simp
        clear hm he
        go_wp2
        go_ret
        refine ⟨?_, rfl⟩
        have : decide (n ∈ l) = true := by simpa using HM.out
        rw [this]; rfl
      · have hd : decide (((l[j] : Nat) : Int) = (n : Int)) = false := by simp; omega
        have hd2 : (((l[j] : Nat) : Int) == (n : Int)) = false := by simp; omega
        go_wp2_with fail
        go_roundg (l.length - (j + 1))
        case measure => have := HGJ.out; omega
        case rel =>
          refine ⟨j + 1, rfl, by go_num, by omega, fun q hq' => ?_, rfl⟩
          rcases Nat.lt_or_eq_of_le (Nat.le_of_lt_succ hq') with h | rfl
          · exact HNQ.out q h
          · rw [List.getElem?_eq_getElem hlt]; simpa using he
    · have hdl : decide ((j : Int) < (l.length : Int)) = false := by simpa using hlt
      have hni : decide (n ∈ l) = false := by
        simp only [decide_eq_false_iff_not]
        intro hm
        obtain ⟨q, hq, hqe⟩ := List.getElem_of_mem hm
        exact HNQ.out q (by omega) (by rw [List.getElem?_eq_getElem hq, hqe])
      have HNI := Lib.hid hni
      clear hni HNQ
      go_wp2
      go_ret
      exact ⟨by rw [HNI.out]; rfl, rfl⟩

/-- What vars may turn: rows of numbers, nothing below B. -/
structure KI (B : Nat) (w w' : World) : Prop where
  os : w'.os = w.os
  tape : w'.tape = w.tape
  output : w'.output = w.output
  size : w.heap.size ≤ w'.heap.size
  low : ∀ k, k < B → k < w.heap.size → w'.heap[k]? = w.heap[k]?
  block : ∀ (k : Nat) (o : Obj), w.heap[k]? = some o → (∀ cs z, o ≠ .cells cs 3 z) → w'.heap[k]? = some o
theorem KI.refl (B : Nat) (w : World) : KI B w w := ⟨rfl, rfl, rfl, Nat.le_refl _, fun _ _ _ => rfl, fun _ _ h _ => h⟩
theorem KI.trans {B : Nat} {a b c : World} (h : KI B a b) (k : KI B b c) : KI B a c :=
  ⟨k.os.trans h.os, k.tape.trans h.tape, k.output.trans h.output, Nat.le_trans h.size k.size, fun i hi hs => (k.low i hi (Nat.lt_of_lt_of_le hs h.size)).trans (h.low i hi hs), fun i o ho h1 => k.block i o (h.block i o ho h1) h1⟩
theorem KI.keeps {w w' : World} (h : KI w.heap.size w w') : Keeps [] w w' := ⟨h.os, h.tape, h.output, h.size, fun k hk _ => h.low k hk hk⟩
theorem KI.kr {B : Nat} {w w' : World} (h : KI B w w') : KR w w' := fun k cs T z hk hT => h.block k _ hk (by
  rintro cs' z' e
  cases e
  rcases hT with e | e <;> exact absurd e (by decide))
theorem KI.grown {B : Nat} {w w6 : World} {sv : Value} {n : Nat} {xs : List Value} {o : Obj} (hown : w.ownsRow B 3 1 sv n xs) (_hB : B ≤ w.heap.size) (hg : (w.alloc o).grownBy w6 sv.ownBlock) : KI B w w6 := by
  have hs0 : (w.alloc o).heap.size = w.heap.size + 1 := by simp
  have hs6 := hg.size
  refine ⟨hg.os, hg.tape, hg.output, by omega, fun k hk hks => ?_, fun k o' ho hne => ?_⟩
  · rw [hg.block k (by omega) (fun e => by have := (hown.lt k e.symm).1; omega), Below.heap_alloc _ _ _ hks]
  · have hl := lt_of_some ho
    have hst : some k ≠ sv.ownBlock := by
      intro e
      rcases hown.2 with ⟨rfl, _⟩ | ⟨g', cap, cur, rfl, _, hh, _⟩
      · simp [Value.ownBlock] at e
      · simp only [Value.ownBlock, Option.some.injEq] at e
        subst e
        rw [ho] at hh
        cases hh
        exact hne _ _ rfl
    rw [hg.block k (by omega) hst]
    exact block_alloc_old ho

def VarsPost (B : Nat) (t : Ty) (l : List Nat) (w : World) (e : Ending) (w' : World) : Prop :=
  ∃ sv, e = .returned sv ∧ w'.ownsRow B 3 1 sv (varsL t l).length (iVs (varsL t l)) ∧ KI B w w'
def varsK : List Ty → List Nat → List Nat
  | [], l => l
  | t :: r, l => varsK r (varsL t l)
theorem varsK_snoc (ts : List Ty) (t : Ty) : ∀ l, varsK (ts ++ [t]) l = varsL t (varsK ts l) := by
  induction ts with
  | nil => intro l; rfl
  | cons a r ih => intro l; exact ih _
theorem varsK_kids {t : Ty} (h : isVarT t = false) (l : List Nat) : varsL t l = varsK (kidsT t) l := by cases t <;> first | rfl | simp [isVarT] at h
theorem varsL_len (t : Ty) : ∀ l, l.length ≤ (varsL t l).length ∧ (varsL t l).length ≤ l.length + t.size := by
  induction t with
  | var n => intro l; unfold varsL; split <;> simp [Ty.size]
  | int => intro l; simp [varsL, Ty.size]
  | bool => intro l; simp [varsL, Ty.size]
  | list a ih => intro l; have := ih l; simp only [varsL, Ty.size]; omega
  | pair a b iha ihb => intro l; have := iha l; have := ihb (varsL a l); simp only [varsL, Ty.size]; omega
  | arr a b iha ihb => intro l; have := iha l; have := ihb (varsL a l); simp only [varsL, Ty.size]; omega
theorem varsK_len (ts : List Ty) : ∀ l, (varsK ts l).length ≤ l.length + sumS ts := by
  induction ts with
  | nil => intro l; simp [varsK, sumS]
  | cons a r ih => intro l; have h1 := ih (varsL a l); have h2 := (varsL_len a l).2; simp only [varsK, sumS]; omega

set_option maxRecDepth 100000 in
set_option maxHeartbeats 4000000 in
theorem rvars_any (n : Nat) (hn : n ≤ 10000) : ∀ (t : Ty), t.size ≤ n → ∀ (B : Nat) (w : World) (v sv : Value) (l : List Nat), RTy w t v → w.ownsRow B 3 1 sv l.length (iVs l) → B ≤ w.heap.size → l.length + t.size ≤ 100000 →
    Calls Tryd.prog 32 #[v, sv] w (VarsPost B t l w) := by
  induction n with
  | zero => intro t h; have := t.size_pos; omega
  | succ n ih =>
    intro t ht B w v sv l hv hown hB hbd
    obtain ⟨b, ad, cap, vs, rfl, hb, hrow, hkids⟩ := hv.node
    have c0 : w.cell? ⟨b, 0, none⟩ = some (.string (bs (kindT t))) := cell_of_block hb 0
    have c1 : w.cell? ⟨b, 1, none⟩ = some (.int .i64 (varN t)) := cell_of_block hb 1
    have c2 : w.cell? ⟨b, 2, none⟩ = some (.slice ad vs.length cap) := cell_of_block hb 2
    by_cases hvar : isVarT t = true
    · obtain ⟨vn, rfl⟩ : ∃ vn, t = .var vn := by cases t <;> first | exact ⟨_, rfl⟩ | simp [isVarT] at hvar
      have hq : ((bs (kindT (.var vn))).toList == []) = true := by rw [ByteArray.toList_eq, bs_data]; rfl
      have hsz := rin_any hown (by omega) vn
      have HIN := Lib.hid hsz
      have HOW := Lib.hid hown
      obtain ⟨sa, scap, rfl, _⟩ := ownsRow_shape hown
      clear hv hb hrow hkids ih hvar hown hsz c2
      by_cases hm : vn ∈ l
      · have hd : decide (vn ∈ l) = true := by simpa using hm
        have HM := Lib.hid hm
        rw [hd] at HIN
        clear hm hd
        go_enter Tryd.func32, Tryd.ntmps32
        go_wp2_with fail
        refine HIN.out.mono ?_
        rintro e w1 ⟨rfl, rfl⟩
        go_wp2
        go_ret
        have hvl : varsL (.var vn) l = l := by unfold varsL; rw [if_pos HM.out]
        unfold VarsPost
        rw [hvl]
        exact ⟨_, rfl, HOW.out, KI.refl _ _⟩
      · have hd : decide (vn ∈ l) = false := by simpa using hm
        have HM := Lib.hid hm
        rw [hd] at HIN
        clear hm hd
        go_enter Tryd.func32, Tryd.ntmps32
        go_wp2_with fail
        refine HIN.out.mono ?_
        rintro e w1 ⟨rfl, rfl⟩
        obtain ⟨ib, hib, hib0, hib1, hib2⟩ := info_parts infoInt
        go_wp2_with (at_builtin; go_must (refine wpList_append_lies _ rfl _ _ 22 rfl B 3 ib (.int .i64 0) 1 8 Tryd.underlying22 hib hib0 hib1 hib2 rfl (by decide) _ _ _ rfl (HOW.out.alloc _) ⟨w.heap.size, 0, none⟩ 1 1 [.int .i64 vn] rfl rfl ?c1 ?c2 (by decide) ?c3 ?c4 ?c5 _ rfl ?_))
        case c1 => exact cells_new w [.int .i64 vn] 3
        case c2 => intro u hu; simp at hu; subst hu; rfl
        case c3 => unfold maxLen; omega
        case c4 => omega
        case c5 => simp; omega
        intro g cp w6 hown6 hgr6 hlg6 hlt6
        have HKI := Lib.hid (KI.grown HOW.out hB hgr6)
        have HO6 := Lib.hid hown6
        clear hown6 hgr6 hlg6 hlt6
        go_wp2
        go_ret
        have hvl : varsL (.var vn) l = l ++ [vn] := by unfold varsL; rw [if_neg HM.out]
        unfold VarsPost
        rw [hvl]
        refine ⟨.slice (some ⟨g, 0, none⟩) (l.length + 1) cp, rfl, ?_, HKI.out⟩
        simpa using HO6.out
    · have hvf := eq_false_of_ne_true hvar
      have hq : ((bs (kindT t)).toList == []) = false := by
        rw [ByteArray.toList_eq, bs_data]
        cases t <;> first | rfl | simp [isVarT] at hvf
      have hlen : vs.length ≤ 2 := by rw [hkids.1]; exact kids_few t
      have HSK := Lib.hid (size_kids t)
      have HIH := Lib.hid (ih (by omega))
      have HR := Lib.hid hrow
      have HKD := Lib.hid hkids
      have HL := Lib.hid hkids.1
      have HEQ := Lib.hid (varsK_kids hvf l)
      have HOW := Lib.hid hown
      clear hv hb hrow hkids ih hvar hvf hown
      go_enter Tryd.func32, Tryd.ntmps32
      go_wp2_with fail
      go_loopg [1, 31] vs.length (fun gg m i wx => ∃ j : Nat, gg = vs.length - j ∧ i = .int .i64 j ∧ j ≤ vs.length ∧ wx.ownsRow B 3 1 m (varsK ((kidsT t).take j) l).length (iVs (varsK ((kidsT t).take j) l)) ∧ KI B w wx)
      case atStart => exact ⟨0, rfl, rfl, by omega, HOW.out, KI.refl _ _⟩
      case round =>
        rename_i gk m i wr
        obtain ⟨j, hg, rfl, hj, hown, hki⟩ := hrel
        have HG := Lib.hid hg
        have HKI := Lib.hid hki
        have HO2 := Lib.hid hown
        have hst := sumS_take (kidsT t) j
        have hkl := varsK_len ((kidsT t).take j) l
        clear hg hki hown
        by_cases hlt : j < vs.length
        · have hjk : j < (kidsT t).length := by rw [← HL.out]; exact hlt
          obtain ⟨a, ha⟩ : ∃ a, (kidsT t)[j]? = some a := ⟨_, List.getElem?_eq_getElem hjk⟩
          obtain ⟨va, hva⟩ : ∃ va, vs[j]? = some va := ⟨_, List.getElem?_eq_getElem hlt⟩
          have hta := HKI.out.kr.ty (HKD.out.2 j a va ha hva)
          obtain ⟨g, rfl, hcell⟩ := (HKI.out.kr.rowC HR.out).cell hva
          have hlt' := kids_lt (List.mem_of_getElem? ha)
          have HTK := Lib.hid (show varsK ((kidsT t).take (j + 1)) l = varsL a (varsK ((kidsT t).take j) l) by rw [take_next' ha, varsK_snoc])
          have hsn : sumS ((kidsT t).take (j + 1)) = sumS ((kidsT t).take j) + a.size := by rw [take_next' ha, sumS_snoc]
          have hst2 := sumS_take (kidsT t) (j + 1)
          have hbd2 : (varsK ((kidsT t).take j) l).length + a.size ≤ 100000 := by have := HSK.out; omega
          have HTY := Lib.hid hta
          have hdl : decide ((j : Int) < (vs.length : Int)) = true := by simpa using hlt
          obtain ⟨vb, rfl⟩ := hta.ptr
          have HC := Lib.hid (HIH.out a (by omega) B _ _ _ _ HTY.out HO2.out (Nat.le_trans hB HKI.out.size) hbd2)
          have hshape := ownsRow_shape HO2.out
          obtain ⟨sa, scap, rfl, _⟩ := hshape
          clear hsn hta ha hva hjk hst hst2 hkl hbd2
          go_wp2_with fail
          refine HC.out.mono ?_
          rintro e w2 ⟨sv2, rfl, hown2, hk2⟩
          have HO3 := Lib.hid hown2
          have HK3 := Lib.hid (HKI.out.trans hk2)
          obtain ⟨sa2, scap2, rfl, _⟩ := ownsRow_shape hown2
          clear hown2 hk2
          go_wp2_with fail
          go_roundg (vs.length - (j + 1))
          case measure => have := HG.out; omega
          case rel =>
            refine ⟨j + 1, rfl, by go_num, by omega, ?_, HK3.out⟩
            rw [HTK.out]
            exact HO3.out
        · have hdl : decide ((j : Int) < (vs.length : Int)) = false := by simpa using hlt
          have hjl : (kidsT t).take j = kidsT t := List.take_of_length_le (by rw [← HL.out]; omega)
          obtain ⟨sa, scap, rfl, _⟩ := ownsRow_shape HO2.out
          have HJ := Lib.hid hjl
          clear hjl hst hkl
          go_wp2
          go_ret
          unfold VarsPost
          rw [HEQ.out]
          have ho := HO2.out
          rw [HJ.out] at ho
          refine ⟨_, ?_, ho, HKI.out⟩
          rw [HJ.out]
          rfl
end Go.Proofs.YtpbplpnifjbkoaaDoor

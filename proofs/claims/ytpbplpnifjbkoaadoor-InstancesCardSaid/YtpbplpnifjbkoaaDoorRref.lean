/-
  The document's reader: its state; is, take, need: by contracts.
-/
import Derived.Test.YtpbplpnifjbkoaaDoorTxt
import Derived.Test.YtpbplpnifjbkoaaDoorPaRec
import Derived.Deep.QuietTactic
import Derived.BigQuiet
import Derived.BigRegion
import Derived.RegionTactic
namespace Go.Proofs.YtpbplpnifjbkoaaDoor
open Go.RowKit

/-- The document's words for kinds. -/
def rstr : Kind → Bytes
  | .name => [110, 97, 109, 101]
  | .num => [110, 117, 109]
  | k => kstr k
theorem rstr_inj (a b : Kind) : (rstr a == rstr b) = (a == b) := by cases a <;> cases b <;> decide

/-- A list of tokens in block g. -/
def ToksAt (g : Nat) (all : List Tok) (w : World) : Prop :=
  (∃ cur z, w.heap[g]? = some (.cells cur 122 z)) ∧ ∀ j t, all[j]? = some t → w.cell? ⟨g, j * 3, none⟩ = some (.string (bs (rstr t.kind))) ∧ (∃ x, (t.kind ≠ .bad → x = t.text) ∧ w.cell? ⟨g, j * 3 + 1, none⟩ = some (.string (bs x))) ∧ w.cell? ⟨g, j * 3 + 2, none⟩ = some (.int .i64 (t.pos : Nat))

/-- The reader at block r: what is left are the tokens ts; b: -1, or the first place that is wrong. -/
structure RC (r : Nat) (ts : List Tok) (b : Int) (w : World) : Prop where
  ex : ∃ (g n cap k : Nat) (all : List Tok), w.heap[r]? = some (.cells #[.slice (some ⟨g, 0, none⟩) n cap, .int .i64 k, .int .i64 b] 71 (0, 0)) ∧ n = all.length ∧ ts = all.drop k ∧ k < n ∧ ToksAt g all w ∧ g ≠ r ∧ g < w.heap.size ∧ n ≤ 65536
  wf : wfT ts

theorem RC.cells {r : Nat} {ts : List Tok} {b : Int} {w : World} (h : RC r ts b w) : ∃ (g n cap k : Nat) (x : Bytes), w.cell? ⟨r, 0, none⟩ = some (.slice (some ⟨g, 0, none⟩) n cap) ∧ w.cell? ⟨r, 1, none⟩ = some (.int .i64 k) ∧ w.cell? ⟨r, 2, none⟩ = some (.int .i64 b) ∧
    (k : Int) < (n : Int) ∧ w.cell? ⟨g, k * 3, none⟩ = some (.string (bs (rstr (headKind ts)))) ∧ w.cell? ⟨g, k * 3 + 1, none⟩ = some (.string (bs x)) ∧ (headKind ts ≠ .bad → x = headText ts) ∧ w.cell? ⟨g, k * 3 + 2, none⟩ = some (.int .i64 (headPos ts)) ∧ n ≤ 65536 := by
  obtain ⟨g, n, cap, k, all, h1, h2, h3, h4, h5, h6, h7, h8⟩ := h.ex
  have hk : k < all.length := by omega
  obtain ⟨t, r', hd⟩ : ∃ t r', ts = t :: r' := by
    have := h.wf
    cases ts with
    | nil => exact this.elim
    | cons t r' => exact ⟨t, r', rfl⟩
  have ht : all[k]? = some t := by
    have : (all.drop k)[0]? = some t := by rw [← h3, hd]; rfl
    simpa using this
  obtain ⟨e1, ⟨x, e2, e3⟩, e4⟩ := h5.2 k t ht
  rw [hd]
  exact ⟨g, n, cap, k, x, cell_of_block h1 0, cell_of_block h1 1, cell_of_block h1 2, by omega, e1, e3, e2, e4, h8⟩

set_option maxRecDepth 100000 in
set_option maxHeartbeats 2000000 in
theorem is_bad {r : Nat} {ts : List Tok} {b : Nat} {w : World} (h : RC r ts b w) (k : ByteArray) :
    Calls Tryd.prog 52 #[.pointer (some ⟨r, 0, none⟩), .string k] w fun e w' => e = .returned (.bool false) ∧ Keeps [] w w' := by
  obtain ⟨g, n, cap, kk, x, c0, c1, c2, hlt, t0, t1, hx, t2, hn⟩ := h.cells
  have hd : decide ((b : Int) < 0) = false := by simp
  clear h hx
  go_enter Tryd.func52, Tryd.ntmps52
  go_wp2_with fail
  go_quiet (fail)
  go_wp2
  go_ret
  exact ⟨rfl, (Keeps.refl [] w).drewN _⟩

set_option maxRecDepth 100000 in
set_option maxHeartbeats 2000000 in
theorem is_ok {r : Nat} {ts : List Tok} {w : World} (h : RC r ts (-1) w) (k : Kind) (kb : ByteArray) (hkb : kb = bs (rstr k)) :
    Calls Tryd.prog 52 #[.pointer (some ⟨r, 0, none⟩), .string kb] w fun e w' => e = .returned (.bool (decide (headKind ts = k))) ∧ Keeps [] w w' := by
  subst hkb
  obtain ⟨g, n, cap, kk, x, c0, c1, c2, hlt, t0, t1, hx, t2, hn⟩ := h.cells
  have hq : ((bs (rstr (headKind ts))).toList == (bs (rstr k)).toList) = decide (headKind ts = k) := by
    rw [bs_beq, rstr_inj]; rfl
  clear h hx
  go_enter Tryd.func52, Tryd.ntmps52
  go_wp2_with fail
  go_quiet (fail)
  go_wp2
  go_ret
  exact ⟨rfl, (Keeps.refl [] w).drewN _⟩

theorem RC.keep {r : Nat} {ts : List Tok} {b : Int} {w w' : World} (h : RC r ts b w) (hk : Keeps [] w w') : RC r ts b w' := by
  obtain ⟨g, n, cap, k, all, h1, h2, h3, h4, h5, h6, h7, h8⟩ := h.ex
  refine ⟨⟨g, n, cap, k, all, hk.some h1 (by simp), h2, h3, h4, ⟨h5.1.imp fun c hc => hc.imp fun z hz => hk.some hz (by simp), fun j t ht => ?_⟩, h6, Nat.lt_of_lt_of_le h7 hk.size, h8⟩, h.wf⟩
  obtain ⟨e1, ⟨x, e2, e3⟩, e4⟩ := h5.2 j t ht
  exact ⟨hk.cellSome e1 (by simp), ⟨x, e2, hk.cellSome e3 (by simp)⟩, hk.cellSome e4 (by simp)⟩
theorem RC.frozen {r : Nat} {ts : List Tok} {b : Int} {w : World} (h : RC r ts b w) (j : Nat) : w.frozen? ⟨r, j, none⟩ = false := by
  obtain ⟨g, n, cap, k, all, h1, _⟩ := h.ex
  exact free_of_block h1 j
/-- The place moved on. -/
theorem RC.next {r : Nat} {ts : List Tok} {b : Int} {w : World} (h : RC r ts b w) {k : Nat} (hc : w.cell? ⟨r, 1, none⟩ = some (.int .i64 k)) (hne : headKind ts ≠ .eof) (hnb : headKind ts ≠ .bad) :
    RC r (adv ts) b (w.setCell ⟨r, 1, none⟩ (.int .i64 (k + 1 : Nat))) := by
  obtain ⟨g, n, cap, k', all, h1, h2, h3, h4, h5, h6, h7, h8⟩ := h.ex
  have hk : k' = k := by
    have := cell_of_block h1 1
    rw [hc] at this
    simp at this
    omega
  subst hk
  obtain ⟨hw, hl, _⟩ := adv_lt h.wf hne hnb
  have hwf := h.wf
  have hlen : ts.length = all.length - k' := by rw [h3]; simp
  have hp := hw.pos
  refine ⟨⟨g, n, cap, k' + 1, all, ?_, h2, ?_, by omega, ⟨h5.1.imp fun c hc => hc.imp fun z hz => block_setCell_other hz _ _ h6, fun j t ht => ?_⟩, h6, by simpa [World.setCell] using h7, h8⟩, hw⟩
  · have := block_setCell h1 1 (.int .i64 (k' + 1 : Nat)); simpa using this
  · rw [← List.drop_drop, ← h3]
    cases ts with
    | nil => exact hwf.elim
    | cons t r' =>
      cases r' with
      | nil => simp at hl hp; simp [adv] at hl
      | cons u v => rfl
  · obtain ⟨e1, ⟨x, e2, e3⟩, e4⟩ := h5.2 j t ht
    have hk : Keeps [r] w (w.setCell ⟨r, 1, none⟩ (.int .i64 (k' + 1 : Nat))) := (Keeps.refl _ _).setCell (Or.inl (by simp)) _
    exact ⟨hk.cellSome e1 (by simpa using h6), ⟨x, e2, hk.cellSome e3 (by simpa using h6)⟩, hk.cellSome e4 (by simpa using h6)⟩
/-- A place marked wrong. -/
theorem RC.mark {r : Nat} {ts : List Tok} {b b' : Int} {w : World} (h : RC r ts b w) : RC r ts b' (w.setCell ⟨r, 2, none⟩ (.int .i64 b')) := by
  obtain ⟨g, n, cap, k', all, h1, h2, h3, h4, h5, h6, h7, h8⟩ := h.ex
  refine ⟨⟨g, n, cap, k', all, ?_, h2, h3, h4, ⟨h5.1.imp fun c hc => hc.imp fun z hz => block_setCell_other hz _ _ h6, fun j t ht => ?_⟩, h6, by simpa [World.setCell] using h7, h8⟩, h.wf⟩
  · have := block_setCell h1 2 (.int .i64 b'); simpa using this
  · obtain ⟨e1, ⟨x, e2, e3⟩, e4⟩ := h5.2 j t ht
    have hk : Keeps [r] w (w.setCell ⟨r, 2, none⟩ (.int .i64 b')) := (Keeps.refl _ _).setCell (Or.inl (by simp)) _
    exact ⟨hk.cellSome e1 (by simpa using h6), ⟨x, e2, hk.cellSome e3 (by simpa using h6)⟩, hk.cellSome e4 (by simpa using h6)⟩

/-- Kept where other blocks are written: rows of other types, new ones. -/
theorem RC.far {r : Nat} {ts : List Tok} {b : Int} {w w' : World} (h : RC r ts b w) (hs : w.heap.size ≤ w'.heap.size)
    (hr : w'.heap[r]? = w.heap[r]?) (hf : ∀ (g : Nat) cur z, w.heap[g]? = some (.cells cur 122 z) → w'.heap[g]? = w.heap[g]?) : RC r ts b w' := by
  obtain ⟨g, n, cap, k, all, h1, h2, h3, h4, h5, h6, h7, h8⟩ := h.ex
  obtain ⟨cur, z, hg⟩ := h5.1
  have hg' := hf g cur z hg
  have hc : ∀ j, w'.cell? ⟨g, j, none⟩ = w.cell? ⟨g, j, none⟩ := fun j => World.cell?_of_block (w := w) hg'
  refine ⟨⟨g, n, cap, k, all, by rw [hr]; exact h1, h2, h3, h4, ⟨⟨cur, z, by rw [hg']; exact hg⟩, fun j t ht => ?_⟩, h6, Nat.lt_of_lt_of_le h7 hs, h8⟩, h.wf⟩
  obtain ⟨e1, ⟨x, e2, e3⟩, e4⟩ := h5.2 j t ht
  exact ⟨by rw [hc]; exact e1, ⟨x, e2, by rw [hc]; exact e3⟩, by rw [hc]; exact e4⟩

set_option maxRecDepth 100000 in
set_option maxHeartbeats 2000000 in
theorem rtake_bad {r : Nat} {ts : List Tok} {b : Nat} {w : World} (h : RC r ts b w) (k : ByteArray) :
    Calls Tryd.prog 49 #[.pointer (some ⟨r, 0, none⟩), .string k] w fun e w' => e = .returned (.bool false) ∧ Keeps [] w w' := by
  have H := Lib.hid (is_bad h k)
  clear h
  go_enter Tryd.func49, Tryd.ntmps49
  go_wp2_with fail
  refine H.out.mono ?_
  rintro e w1 ⟨rfl, hk⟩
  have HK := Lib.hid hk
  clear hk
  go_wp2
  refine bodyPost_ret (v := .bool false) (by simp [results, Tryd.results49, go_sem]) rfl ⟨rfl, HK.out⟩
set_option maxRecDepth 100000 in
set_option maxHeartbeats 2000000 in
theorem rtake_no {r : Nat} {ts : List Tok} {w : World} (h : RC r ts (-1) w) (k : Kind) (kb : ByteArray) (hkb : kb = bs (rstr k)) (hne : headKind ts ≠ k) :
    Calls Tryd.prog 49 #[.pointer (some ⟨r, 0, none⟩), .string kb] w fun e w' => e = .returned (.bool false) ∧ Keeps [] w w' := by
  have H := is_ok h k kb hkb
  rw [decide_eq_false hne] at H
  have H' := Lib.hid H
  clear h H hkb hne
  go_enter Tryd.func49, Tryd.ntmps49
  go_wp2_with fail
  refine H'.out.mono ?_
  rintro e w1 ⟨rfl, hk⟩
  have HK := Lib.hid hk
  clear hk
  go_wp2
  refine bodyPost_ret (v := .bool false) (by simp [results, Tryd.results49, go_sem]) rfl ⟨rfl, HK.out⟩
set_option maxRecDepth 100000 in
set_option maxHeartbeats 2000000 in
theorem rtake_yes {r : Nat} {ts : List Tok} {w : World} (h : RC r ts (-1) w) (k : Kind) (kb : ByteArray) (hkb : kb = bs (rstr k)) (he : headKind ts = k) :
    Calls Tryd.prog 49 #[.pointer (some ⟨r, 0, none⟩), .string kb] w fun e w' => e = .returned (.bool true) ∧ (k ≠ .eof → k ≠ .bad → RC r (adv ts) (-1) w') ∧ Keeps [r] w w' ∧ w'.cell? ⟨r, 2, none⟩ = some (.int .i64 (-1)) := by
  have H := is_ok h k kb hkb
  rw [decide_eq_true he] at H
  have H' := Lib.hid H
  have HC := Lib.hid h
  have HE := Lib.hid he
  clear h H hkb he
  go_enter Tryd.func49, Tryd.ntmps49
  go_wp2_with fail
  refine H'.out.mono ?_
  rintro e w1 ⟨rfl, hk⟩
  have HC1 := Lib.hid (HC.out.keep hk)
  have HK := Lib.hid hk
  obtain ⟨g, n, cap, kk, x, c0, c1, c2, hlt, t0, t1, hx, t2, hn⟩ := HC1.out.cells
  have f1 := HC1.out.frozen 1
  have C1 := Lib.hid c1
  have C2 := Lib.hid c2
  have hkk : kk < 65536 := by omega
  clear hk t0 t1 hx t2 c0 c2
  go_wp2
  go_ret
  refine ⟨rfl, fun h1 h2 => ?_, (HK.out.mono (by simp)).setCell (Or.inl (by simp)) _, ?_⟩
  · exact HC1.out.next C1.out (HE.out ▸ h1) (HE.out ▸ h2)
  · have hr := HC1.out.ex
    obtain ⟨g, n, cap, k', all, h1, _⟩ := hr
    exact cell_of_block (block_setCell h1 1 _) 2

end Go.Proofs.YtpbplpnifjbkoaaDoor

namespace Go.Proofs.YtpbplpnifjbkoaaDoor
open Go.RowKit

set_option maxRecDepth 100000 in
set_option maxHeartbeats 2000000 in
theorem rneed_bad {r : Nat} {ts : List Tok} {b : Nat} {w : World} (h : RC r ts b w) (k : ByteArray) :
    Calls Tryd.prog 26 #[.pointer (some ⟨r, 0, none⟩), .string k] w fun e w' => (∃ x, e = .returned (.string (bs x))) ∧ Keeps [] w w' := by
  have HC := Lib.hid h
  have hwf := Lib.hid h.wf
  obtain ⟨g, n, cap, kk, x, c0, c1, c2, hlt, t0, t1, hx, t2, hn⟩ := h.cells
  have hr : r < w.heap.size := lt_of_cell c0
  have hg : g < w.heap.size := lt_of_cell t0
  have HX := Lib.hid hx
  clear h hx
  go_enter Tryd.func26, Tryd.ntmps26
  go_wp2_with fail
  go_region
  clear c0 c1 c2 hlt t0 t1 t2
  have HK1 := Lib.hid (show Keeps [] w (w.alloc (.cells #[.string (bs (rstr (headKind ts))), .string (bs x), .int .i64 (headPos ts)] 122)).drew from ((Keeps.refl [] w).alloc _).drew)
  have HB1 := Lib.hid (show (w.alloc (.cells #[.string (bs (rstr (headKind ts))), .string (bs x), .int .i64 (headPos ts)] 122)).drew.heap[w.heap.size]? = some (.cells #[.string (bs (rstr (headKind ts))), .string (bs x), .int .i64 (headPos ts)] 122 (0, 0)) from block_alloc w _)
  go_wp2_with fail
  refine (rtake_bad (HC.out.keep HK1.out) k).mono ?_
  rintro e w2 ⟨rfl, hk⟩
  have HC2 := Lib.hid ((HC.out.keep HK1.out).keep hk)
  have HK2 := Lib.hid (HK1.out.trans0 hk)
  have q1 : w2.cell? ⟨w.heap.size, 1, none⟩ = some (.string (bs x)) := cell_of_block (hk.some HB1.out (by simp)) 1
  obtain ⟨_, _, _, _, _, _, _, c2, _⟩ := HC2.out.cells
  have hd : decide ((b : Int) < 0) = false := by simp
  clear hk
  go_wp2
  refine bodyPost_ret (v := .string (bs x)) (by simp [results, Tryd.results26, go_sem]) rfl ⟨⟨x, rfl⟩, HK2.out⟩


set_option maxRecDepth 100000 in
set_option maxHeartbeats 2000000 in
theorem rneed_no {r : Nat} {ts : List Tok} {w : World} (h : RC r ts (-1) w) (k : Kind) (kb : ByteArray) (hkb : kb = bs (rstr k)) (hne : headKind ts ≠ k) :
    Calls Tryd.prog 26 #[.pointer (some ⟨r, 0, none⟩), .string kb] w fun e w' => (∃ x, e = .returned (.string (bs x))) ∧ RC r ts (headPos ts) w' ∧ Keeps [r] w w' := by
  have HC := Lib.hid h
  have hwf := Lib.hid h.wf
  obtain ⟨g, n, cap, kk, x, c0, c1, c2, hlt, t0, t1, hx, t2, hn⟩ := h.cells
  have hr : r < w.heap.size := lt_of_cell c0
  have hg : g < w.heap.size := lt_of_cell t0
  have HX := Lib.hid hx
  have HKB := Lib.hid hkb
  have HNE := Lib.hid hne
  clear hkb hne
  clear h hx
  go_enter Tryd.func26, Tryd.ntmps26
  go_wp2_with fail
  go_region
  clear c0 c1 c2 hlt t0 t1 t2
  have HK1 := Lib.hid (show Keeps [] w (w.alloc (.cells #[.string (bs (rstr (headKind ts))), .string (bs x), .int .i64 (headPos ts)] 122)).drew from ((Keeps.refl [] w).alloc _).drew)
  have HB1 := Lib.hid (show (w.alloc (.cells #[.string (bs (rstr (headKind ts))), .string (bs x), .int .i64 (headPos ts)] 122)).drew.heap[w.heap.size]? = some (.cells #[.string (bs (rstr (headKind ts))), .string (bs x), .int .i64 (headPos ts)] 122 (0, 0)) from block_alloc w _)
  go_wp2_with fail
  refine (rtake_no (HC.out.keep HK1.out) k kb HKB.out HNE.out).mono ?_
  rintro e w2 ⟨rfl, hk⟩
  have HC2 := Lib.hid ((HC.out.keep HK1.out).keep hk)
  have HK2 := Lib.hid (HK1.out.trans0 hk)
  have hb2 := hk.some HB1.out (by simp)
  have q1 : w2.cell? ⟨w.heap.size, 1, none⟩ = some (.string (bs x)) := cell_of_block hb2 1
  have q2 : w2.cell? ⟨w.heap.size, 2, none⟩ = some (.int .i64 (headPos ts)) := cell_of_block hb2 2
  obtain ⟨_, _, _, _, _, _, _, c2, _⟩ := HC2.out.cells
  have f2 := HC2.out.frozen 2
  have hrn : ¬ w.heap.size = r := by omega
  clear hk hb2
  go_wp2
  refine bodyPost_ret (v := .string (bs x)) (by simp [results, Tryd.results26, go_sem]) rfl ⟨⟨x, rfl⟩, HC2.out.mark, (HK2.out.mono (by simp)).setCell (Or.inl (by simp)) _⟩


set_option maxRecDepth 100000 in
set_option maxHeartbeats 2000000 in
theorem rneed_yes {r : Nat} {ts : List Tok} {w : World} (h : RC r ts (-1) w) (k : Kind) (kb : ByteArray) (hkb : kb = bs (rstr k)) (he : headKind ts = k) (hnb : k ≠ .bad) :
    Calls Tryd.prog 26 #[.pointer (some ⟨r, 0, none⟩), .string kb] w fun e w' => e = .returned (.string (bs (headText ts))) ∧ (k ≠ .eof → RC r (adv ts) (-1) w') ∧ Keeps [r] w w' ∧ w'.cell? ⟨r, 2, none⟩ = some (.int .i64 (-1)) := by
  have HC := Lib.hid h
  have hwf := Lib.hid h.wf
  obtain ⟨g, n, cap, kk, x, c0, c1, c2, hlt, t0, t1, hx, t2, hn⟩ := h.cells
  have hr : r < w.heap.size := lt_of_cell c0
  have hg : g < w.heap.size := lt_of_cell t0
  have HX := Lib.hid hx
  have HKB := Lib.hid hkb
  have HE := Lib.hid he
  have HNB := Lib.hid hnb
  clear hkb he hnb
  clear h hx
  go_enter Tryd.func26, Tryd.ntmps26
  go_wp2_with fail
  go_region
  clear c0 c1 c2 hlt t0 t1 t2
  have HK1 := Lib.hid (show Keeps [] w (w.alloc (.cells #[.string (bs (rstr (headKind ts))), .string (bs x), .int .i64 (headPos ts)] 122)).drew from ((Keeps.refl [] w).alloc _).drew)
  have HB1 := Lib.hid (show (w.alloc (.cells #[.string (bs (rstr (headKind ts))), .string (bs x), .int .i64 (headPos ts)] 122)).drew.heap[w.heap.size]? = some (.cells #[.string (bs (rstr (headKind ts))), .string (bs x), .int .i64 (headPos ts)] 122 (0, 0)) from block_alloc w _)
  go_wp2_with fail
  refine (rtake_yes (HC.out.keep HK1.out) k kb HKB.out HE.out).mono ?_
  rintro e w2 ⟨rfl, hrc, hk, hc2⟩
  have HRC := Lib.hid hrc
  have HK2 := Lib.hid (HK1.out.mono (M' := [r]) (by simp) |>.trans hk (fun m hm => Or.inl hm))
  have HC2 := Lib.hid hc2
  have q1 : w2.cell? ⟨w.heap.size, 1, none⟩ = some (.string (bs x)) := cell_of_block (hk.some HB1.out (by simp; omega)) 1
  clear hk hrc hc2
  go_wp2
  refine bodyPost_ret (v := .string (bs x)) (by simp [results, Tryd.results26, go_sem]) rfl ⟨by rw [HX.out (HE.out ▸ HNB.out)], fun h1 => HRC.out h1 HNB.out, HK2.out, HC2.out⟩

end Go.Proofs.YtpbplpnifjbkoaaDoor

namespace Go.Proofs.YtpbplpnifjbkoaaDoor
open Go.RowKit

theorem low_any (c : UInt8) (w : World) : Calls Tryd.prog 47 #[.int .u8 c.toNat] w fun e w' => e = .returned (.bool (isSmall c)) ∧ w = w' := by
  have e : isSmall c = (decide (97 ≤ (c.toNat : Int)) && decide ((c.toNat : Int) ≤ 122)) := by
    unfold isSmall
    rw [Bool.eq_iff_iff]
    simp [UInt8.le_iff_toNat_le]
    omega
  rw [e]
  clear e
  go_enter Tryd.func47, Tryd.ntmps47
  go_wp2
  all_goals (go_ret; refine ⟨?_, rfl⟩)
  · rename_i h; simp [h]
  · rename_i h; have h' : ¬ (97 ≤ (c.toNat : Int)) := by omega
    simp [h']
theorem fig_any (c : UInt8) (w : World) : Calls Tryd.prog 48 #[.int .u8 c.toNat] w fun e w' => e = .returned (.bool (isDigit c)) ∧ w = w' := by
  have e : isDigit c = (decide (48 ≤ (c.toNat : Int)) && decide ((c.toNat : Int) ≤ 57)) := by
    unfold isDigit
    rw [Bool.eq_iff_iff]
    simp [UInt8.le_iff_toNat_le]
    omega
  rw [e]
  clear e
  go_enter Tryd.func48, Tryd.ntmps48
  go_wp2
  all_goals (go_ret; refine ⟨?_, rfl⟩)
  · rename_i h; simp [h]
  · rename_i h; have h' : ¬ (48 ≤ (c.toNat : Int)) := by omega
    simp [h']

def kwords : List Bytes := [[102, 117, 110], [108, 101, 116], [114, 101, 99], [97, 110, 100], [105, 110], [105, 102], [116, 104, 101, 110], [101, 108, 115, 101]]
theorem words_any (w : World) : Calls Tryd.prog 24 #[] w fun e w' => ∃ g cap : Nat, e = .returned (.slice (some ⟨g, 0, none⟩) 8 cap) ∧ w.heap.size ≤ g ∧ Keeps [] w w' ∧ w'.heap[g]? = some (.cells (kwords.map fun b => Value.string (bs b)).toArray 9 (0, 0)) := by
  go_enter Tryd.func24, Tryd.ntmps24
  go_wp2
  go_ret
  exact ⟨w.heap.size, 8, rfl, Nat.le_refl _, (Keeps.refl [] w).alloc _, block_alloc _ _⟩
end Go.Proofs.YtpbplpnifjbkoaaDoor

namespace Go.Proofs.YtpbplpnifjbkoaaDoor
open Go.RowKit

/-- A node: its word, its names, its parts, its place. -/
def Node (w : World) (lo hi : Nat) (op : Bytes) (ns : List Bytes) (vs : List Value) (p : Nat) (v : Value) : Prop :=
  ∃ (b : Nat) (sn sl : Value), lo ≤ b ∧ b < hi ∧ v = .pointer (some ⟨b, 0, none⟩) ∧ w.heap[b]? = some (.cells #[.string (bs op), sn, sl, .int .i64 p] 77 (0, 0)) ∧
    RowAt w lo hi 9 sn (ns.map fun x => Value.string (bs x)) ∧ RowAt w lo hi 31 sl vs
theorem Node.keep {w w' : World} {lo hi : Nat} {op : Bytes} {ns : List Bytes} {vs : List Value} {p : Nat} {v : Value} (h : Node w lo hi op ns vs p v) (hk : ∀ b, lo ≤ b → b < hi → w'.heap[b]? = w.heap[b]?) : Node w' lo hi op ns vs p v := by
  obtain ⟨b, sn, sl, h1, h2, h3, h4, h5, h6⟩ := h
  exact ⟨b, sn, sl, h1, h2, h3, by rw [hk b h1 h2]; exact h4, h5.keep hk, h6.keep hk⟩
theorem Node.widen {w : World} {lo hi lo' hi' : Nat} {op : Bytes} {ns : List Bytes} {vs : List Value} {p : Nat} {v : Value} (h : Node w lo hi op ns vs p v) (hl : lo' ≤ lo) (hh : hi ≤ hi') : Node w lo' hi' op ns vs p v := by
  obtain ⟨b, sn, sl, h1, h2, h3, h4, h5, h6⟩ := h
  exact ⟨b, sn, sl, by omega, by omega, h3, h4, h5.widen hl hh, h6.widen hl hh⟩

def oName : Bytes := [110, 97, 109, 101]
def oNum : Bytes := [110, 117, 109]
def oFun : Bytes := [102, 117, 110]
def oApp : Bytes := [97, 112, 112]
def oPair : Bytes := [112, 97, 105, 114]
def oLet : Bytes := [108, 101, 116]
def oRec : Bytes := [114, 101, 99]
def oIf : Bytes := [105, 102]

def RExpAt (w : World) (lo hi : Nat) : Exp → List Bytes → List Value → Value → Prop
  | .name p s, ns, vs, v => ns = [] ∧ vs = [] ∧ Node w lo hi oName [s] [] p v
  | .num p s, ns, vs, v => ns = [] ∧ vs = [] ∧ Node w lo hi oNum [s] [] p v
  | .lam p x e, ns, vs, v => ns = [] ∧ vs = [] ∧ ∃ ve, Node w lo hi oFun [x] [ve] p v ∧ RExpAt w lo hi e [] [] ve
  | .app _ f a, ns, vs, v => ns = [] ∧ vs = [] ∧ ∃ vf va q, Node w lo hi oApp [] [vf, va] q v ∧ RExpAt w lo hi f [] [] vf ∧ RExpAt w lo hi a [] [] va
  | .pair p f a, ns, vs, v => ns = [] ∧ vs = [] ∧ ∃ vf va, Node w lo hi oPair [] [vf, va] p v ∧ RExpAt w lo hi f [] [] vf ∧ RExpAt w lo hi a [] [] va
  | .letin p x f a, ns, vs, v => ns = [] ∧ vs = [] ∧ ∃ vf va, Node w lo hi oLet [x] [vf, va] p v ∧ RExpAt w lo hi f [] [] vf ∧ RExpAt w lo hi a [] [] va
  | .cond p c f a, ns, vs, v => ns = [] ∧ vs = [] ∧ ∃ vc vf va, Node w lo hi oIf [] [vc, vf, va] p v ∧ RExpAt w lo hi c [] [] vc ∧ RExpAt w lo hi f [] [] vf ∧ RExpAt w lo hi a [] [] va
  | .recr p g, ns, vs, v => ns = [] ∧ vs = [] ∧ ∃ ns' vs' vf, Node w lo hi oRec ns' (vs' ++ [vf]) p v ∧ RExpAt w lo hi g ns' vs' vf
  | .bnd x a g, ns, vs, v => ∃ ns' va vs', ns = x :: ns' ∧ vs = va :: vs' ∧ RExpAt w lo hi a [] [] va ∧ RExpAt w lo hi g ns' vs' v
  | .fin e, ns, vs, v => ns = [] ∧ vs = [] ∧ RExpAt w lo hi e [] [] v

theorem RExpAt.keep {w w' : World} {lo hi : Nat} (hk : ∀ b, lo ≤ b → b < hi → w'.heap[b]? = w.heap[b]?) (e : Exp) : ∀ ns vs v, RExpAt w lo hi e ns vs v → RExpAt w' lo hi e ns vs v := by
  induction e with
  | name p s => rintro ns vs v ⟨h1, h2, h⟩; exact ⟨h1, h2, h.keep hk⟩
  | num p s => rintro ns vs v ⟨h1, h2, h⟩; exact ⟨h1, h2, h.keep hk⟩
  | lam p x e ih => rintro ns vs v ⟨h1, h2, ve, h, h3⟩; exact ⟨h1, h2, ve, h.keep hk, ih _ _ _ h3⟩
  | app p f a ihf iha => rintro ns vs v ⟨h1, h2, vf, va, q, h, h3, h4⟩; exact ⟨h1, h2, vf, va, q, h.keep hk, ihf _ _ _ h3, iha _ _ _ h4⟩
  | pair p f a ihf iha => rintro ns vs v ⟨h1, h2, vf, va, h, h3, h4⟩; exact ⟨h1, h2, vf, va, h.keep hk, ihf _ _ _ h3, iha _ _ _ h4⟩
  | letin p x f a ihf iha => rintro ns vs v ⟨h1, h2, vf, va, h, h3, h4⟩; exact ⟨h1, h2, vf, va, h.keep hk, ihf _ _ _ h3, iha _ _ _ h4⟩
  | cond p c f a ihc ihf iha => rintro ns vs v ⟨h1, h2, vc, vf, va, h, h3, h4, h5⟩; exact ⟨h1, h2, vc, vf, va, h.keep hk, ihc _ _ _ h3, ihf _ _ _ h4, iha _ _ _ h5⟩
  | recr p g ih => rintro ns vs v ⟨h1, h2, ns', vs', vf, h, h3⟩; exact ⟨h1, h2, ns', vs', vf, h.keep hk, ih _ _ _ h3⟩
  | bnd x a g iha ihg => rintro ns vs v ⟨ns', va, vs', h1, h2, h3, h4⟩; exact ⟨ns', va, vs', h1, h2, iha _ _ _ h3, ihg _ _ _ h4⟩
  | fin e ih => rintro ns vs v ⟨h1, h2, h3⟩; exact ⟨h1, h2, ih _ _ _ h3⟩

theorem RExpAt.widen {w : World} {lo hi lo' hi' : Nat} (hl : lo' ≤ lo) (hh : hi ≤ hi') (e : Exp) : ∀ ns vs v, RExpAt w lo hi e ns vs v → RExpAt w lo' hi' e ns vs v := by
  induction e with
  | name p s => rintro ns vs v ⟨h1, h2, h⟩; exact ⟨h1, h2, h.widen hl hh⟩
  | num p s => rintro ns vs v ⟨h1, h2, h⟩; exact ⟨h1, h2, h.widen hl hh⟩
  | lam p x e ih => rintro ns vs v ⟨h1, h2, ve, h, h3⟩; exact ⟨h1, h2, ve, h.widen hl hh, ih _ _ _ h3⟩
  | app p f a ihf iha => rintro ns vs v ⟨h1, h2, vf, va, q, h, h3, h4⟩; exact ⟨h1, h2, vf, va, q, h.widen hl hh, ihf _ _ _ h3, iha _ _ _ h4⟩
  | pair p f a ihf iha => rintro ns vs v ⟨h1, h2, vf, va, h, h3, h4⟩; exact ⟨h1, h2, vf, va, h.widen hl hh, ihf _ _ _ h3, iha _ _ _ h4⟩
  | letin p x f a ihf iha => rintro ns vs v ⟨h1, h2, vf, va, h, h3, h4⟩; exact ⟨h1, h2, vf, va, h.widen hl hh, ihf _ _ _ h3, iha _ _ _ h4⟩
  | cond p c f a ihc ihf iha => rintro ns vs v ⟨h1, h2, vc, vf, va, h, h3, h4, h5⟩; exact ⟨h1, h2, vc, vf, va, h.widen hl hh, ihc _ _ _ h3, ihf _ _ _ h4, iha _ _ _ h5⟩
  | recr p g ih => rintro ns vs v ⟨h1, h2, ns', vs', vf, h, h3⟩; exact ⟨h1, h2, ns', vs', vf, h.widen hl hh, ih _ _ _ h3⟩
  | bnd x a g iha ihg => rintro ns vs v ⟨ns', va, vs', h1, h2, h3, h4⟩; exact ⟨ns', va, vs', h1, h2, iha _ _ _ h3, ihg _ _ _ h4⟩
  | fin e ih => rintro ns vs v ⟨h1, h2, h3⟩; exact ⟨h1, h2, ih _ _ _ h3⟩

/-- How the document's parser ends. -/
def RPost (r : Nat) (w : World) (f : Exp → Exp) (res : Except Nat (Exp × List Tok)) (e : Ending) (w' : World) : Prop :=
  Keeps [r] w w' ∧ ∃ b : Nat, e = .returned (.pointer (some ⟨b, 0, none⟩)) ∧ match res with
  | .ok (x, ts) => RExpAt w' w.heap.size w'.heap.size (f x) [] [] (.pointer (some ⟨b, 0, none⟩)) ∧ RC r ts (-1) w'
  | .error p => ∃ ts, RC r ts (p : Nat) w'
end Go.Proofs.YtpbplpnifjbkoaaDoor

namespace Go.Proofs.YtpbplpnifjbkoaaDoor
open Go.RowKit

set_option maxRecDepth 100000 in
set_option maxHeartbeats 2000000 in
theorem rexp_bad {r : Nat} {ts : List Tok} {b : Nat} {w : World} (h : RC r ts b w) :
    Calls Tryd.prog 25 #[.pointer (some ⟨r, 0, none⟩)] w fun e w' => (∃ c : Nat, e = .returned (.pointer (some ⟨c, 0, none⟩))) ∧ Keeps [] w w' := by
  obtain ⟨g, n', cap, kk, x, c0, c1, c2, hlt, t0, t1, hx, t2, hn⟩ := h.cells
  have hr : r < w.heap.size := lt_of_cell c0
  have hg : g < w.heap.size := lt_of_cell t0
  have hd : decide ((b : Int) ≥ 0) = true := by simp
  clear h hx
  go_enter Tryd.func25, Tryd.ntmps25
  go_wp2_with fail
  go_region
  clear c0 c1 hlt t0 t1 t2
  go_wp2
  refine bodyPost_ret (v := .pointer (some ⟨w.heap.size, 0, none⟩)) (by simp [results, Tryd.results25, go_sem]) rfl ⟨⟨_, rfl⟩, ?_⟩
  exact ((Keeps.refl [] w).alloc _).drew

set_option maxRecDepth 100000 in
set_option maxHeartbeats 2000000 in
theorem ratom_bad {r : Nat} {ts : List Tok} {b : Nat} {w : World} (h : RC r ts b w) :
    Calls Tryd.prog 51 #[.pointer (some ⟨r, 0, none⟩)] w fun e w' => (∃ c : Nat, e = .returned (.pointer (some ⟨c, 0, none⟩))) ∧ Keeps [] w w' := by
  have HC := Lib.hid h
  obtain ⟨g, n', cap, kk, x, c0, c1, c2, hlt, t0, t1, hx, t2, hn⟩ := h.cells
  have hr : r < w.heap.size := lt_of_cell c0
  have hg : g < w.heap.size := lt_of_cell t0
  clear h hx
  go_enter Tryd.func51, Tryd.ntmps51
  go_wp2_with fail
  go_region
  clear c0 c1 c2 hlt t0 t1 t2 hr hg
  have K0 := Lib.hid (show Keeps [] w (w.alloc (.cells #[.string (bs (rstr (headKind ts))), .string (bs x), .int .i64 (headPos ts)] 122)).drew from ((Keeps.refl [] w).alloc _).drew)
  go_wp2_with fail
  refine (rtake_bad (HC.out.keep K0.out) _).mono ?_
  rintro e w1 ⟨rfl, hk⟩
  have K1 := Lib.hid (K0.out.trans0 hk)
  clear hk
  go_wp2_with fail
  refine (rtake_bad (HC.out.keep K1.out) _).mono ?_
  rintro e w2 ⟨rfl, hk⟩
  have K2 := Lib.hid (K1.out.trans0 hk)
  clear hk
  go_wp2_with fail
  refine (rneed_bad (HC.out.keep K2.out) _).mono ?_
  rintro e w3 ⟨⟨y1, rfl⟩, hk⟩
  have K3 := Lib.hid (K2.out.trans0 hk)
  clear hk
  go_wp2_with fail
  refine (rexp_bad (HC.out.keep K3.out) ).mono ?_
  rintro e w4 ⟨⟨c, rfl⟩, hk⟩
  have K4 := Lib.hid (K3.out.trans0 hk)
  clear hk
  go_wp2_with fail
  refine (rtake_bad (HC.out.keep K4.out) _).mono ?_
  rintro e w5 ⟨rfl, hk⟩
  have K5 := Lib.hid (K4.out.trans0 hk)
  clear hk
  go_wp2_with fail
  refine (rneed_bad (HC.out.keep K5.out) _).mono ?_
  rintro e w6 ⟨⟨y2, rfl⟩, hk⟩
  have K6 := Lib.hid (K5.out.trans0 hk)
  clear hk
  go_wp2
  refine bodyPost_ret (v := .pointer (some ⟨c, 0, none⟩)) (by simp [results, Tryd.results51, go_sem]) rfl ⟨⟨_, rfl⟩, K6.out⟩
end Go.Proofs.YtpbplpnifjbkoaaDoor

/-
  plain.Names and the sentinels as they lie ('Gl').
-/
import Derived.Test.YtpbplpnifjbkoaaDoorIs
import Derived.Test.YtpbplpnifjbkoaaDoorAs
import Derived.Test.YtpbplpnifjbkoaaDoorAsb
import Derived.Test.YtpbplpnifjbkoaaDoorBase
import Derived.Deep.LoopGhost
import Derived.Lib.Hide
namespace Go.Proofs.YtpbplpnifjbkoaaDoor
open Go.RowKit

abbrev sent (a : Nat → Addr) (k : Nat) : Value := .iface 265 (.pointer (some (a k)))

def gIdx : List Nat := [0, 1, 2, 3, 4, 5, 6, 7, 8]

/-- The eight errors of package api and the handle of the type 'error', all below block B. -/
structure Gl (a : Nat → Addr) (B : Nat) (w : World) : Prop where
  v0 : w.cell? ⟨0, 0, none⟩ = some (sent a 0)
  v1 : w.cell? ⟨1, 0, none⟩ = some (sent a 1)
  v2 : w.cell? ⟨2, 0, none⟩ = some (sent a 2)
  v3 : w.cell? ⟨3, 0, none⟩ = some (sent a 3)
  v4 : w.cell? ⟨4, 0, none⟩ = some (sent a 4)
  v5 : w.cell? ⟨5, 0, none⟩ = some (sent a 5)
  v6 : w.cell? ⟨6, 0, none⟩ = some (sent a 6)
  v7 : w.cell? ⟨7, 0, none⟩ = some (sent a 7)
  ty : w.cell? ⟨8, 0, none⟩ = some (.iface 151 (.agg #[.pointer (some ⟨13, 52, none⟩)]))
  lo : ∀ g ∈ gIdx, g < B
  hi : B ≤ w.heap.size
  low : ∀ k, k < 8 → (a k).block < B
  err : ∀ k, k < 8 → ∃ c t, w.heap[(a k).block]? = some (.cells c t (0, 0))
  ne : ∀ i j, i < 8 → j < 8 → i ≠ j → a i ≠ a j

theorem Gl.keep {a : Nat → Addr} {B : Nat} {w w' : World} (h : Gl a B w) (hs : B ≤ w'.heap.size) (hk : ∀ k, k < B → w'.heap[k]? = w.heap[k]?) : Gl a B w' := by
  have lo := h.lo
  have hc : ∀ g ∈ gIdx, w'.cell? ⟨g, 0, none⟩ = w.cell? ⟨g, 0, none⟩ := fun g hg => World.cell?_of_block (hk g (lo g hg))
  exact ⟨(hc _ (by decide)).trans h.v0, (hc _ (by decide)).trans h.v1, (hc _ (by decide)).trans h.v2, (hc _ (by decide)).trans h.v3, (hc _ (by decide)).trans h.v4, (hc _ (by decide)).trans h.v5,
    (hc _ (by decide)).trans h.v6, (hc _ (by decide)).trans h.v7, (hc _ (by decide)).trans h.ty, lo, hs, h.low, fun k hk8 => by rw [hk _ (h.low k hk8)]; exact h.err k hk8, h.ne⟩
theorem Gl.below {a : Nat → Addr} {B : Nat} {w w' : World} (h : Gl a B w) (hb : Below B w w') : Gl a B w' := h.keep (Nat.le_trans h.hi hb.size) hb.block

theorem is_ij {a : Nat → Addr} {B : Nat} (w : World) (h : Gl a B w) (i j : Nat) (hi : i < 8) (hj : j < 8) :
    Calls Tryd.prog 19 #[sent a i, sent a j] w fun e w' => e = .returned (.bool (decide (i = j))) ∧ w = w' := by
  by_cases hij : i = j
  · subst hij
    exact (is_same (a i) w).mono fun e w' ⟨he, hw⟩ => ⟨by rw [he]; simp, hw⟩
  · obtain ⟨ci, ti, h1⟩ := h.err i hi
    obtain ⟨cj, tj, h2⟩ := h.err j hj
    exact (is_other (a i) (a j) ci cj ti tj w (h.ne i j hi hj hij) h1 h2).mono fun e w' ⟨he, hw⟩ => ⟨by rw [he]; simp [hij], hw⟩

theorem is_env_ij {a : Nat → Addr} {B : Nat} (w : World) (h : Gl a B w) (b : Nat) (i j : Nat) (hi : i < 8) (hj : j < 8) (h1 : w.cell? ⟨b, 1, none⟩ = some (sent a i)) :
    Calls Tryd.prog 19 #[.iface 54 (.pointer (some ⟨b, 0, none⟩)), sent a j] w fun e w' => e = .returned (.bool (decide (i = j))) ∧ w = w' := by
  by_cases hij : i = j
  · subst hij
    exact (is_env_same b 0 (a i) w h1).mono fun e w' ⟨he, hw⟩ => ⟨by rw [he]; simp, hw⟩
  · obtain ⟨ci, ti, hb1⟩ := h.err i hi
    obtain ⟨cj, tj, hb2⟩ := h.err j hj
    exact (is_env_other b 0 (a j) (a i) ci cj ti tj w h1 (h.ne i j hi hj hij) hb1 hb2).mono fun e w' ⟨he, hw⟩ => ⟨by rw [he]; simp [hij], hw⟩

theorem infoBool : (Tryd.prog.info? 4).map (fun i => (i.zero, i.size, i.bytes)) = some (some (.bool false), 1, 1) := by kernel_rfl

/-- What is told of the first n of the 128 comparisons. -/
def bl (n : Nat) : List Value := (List.range n).map fun k => .bool (decide (k / 16 = k % 16 / 2))
theorem bl_length (n : Nat) : (bl n).length = n := by simp [bl]
theorem bl_two (i j : Nat) (hj : j < 8) : bl (16 * i + 2 * j + 2) = bl (16 * i + 2 * j) ++ [.bool (decide (i = j)), .bool (decide (i = j))] := by
  unfold bl
  rw [show 16 * i + 2 * j + 2 = (16 * i + 2 * j + 1) + 1 from rfl, List.range_succ, List.range_succ]
  have h1 : (16 * i + 2 * j) / 16 = i := by omega
  have h2 : (16 * i + 2 * j) % 16 / 2 = j := by omega
  have h3 : (16 * i + 2 * j + 1) / 16 = i := by omega
  have h4 : (16 * i + 2 * j + 1) % 16 / 2 = j := by omega
  simp only [List.map_append, List.map_cons, List.map_nil, h1, h2, h3, h4, List.append_assoc, List.cons_append, List.nil_append]

def errArr (a : Nat → Addr) : Array Value := #[sent a 0, sent a 1, sent a 2, sent a 3, sent a 4, sent a 5, sent a 6, sent a 7]
theorem errArr_at (a : Nat → Addr) (k : Nat) (hk : k < 8) : (errArr a)[k]? = some (sent a k) := by
  match k, hk with
  | 0, _ => rfl
  | 1, _ => rfl
  | 2, _ => rfl
  | 3, _ => rfl
  | 4, _ => rfl
  | 5, _ => rfl
  | 6, _ => rfl
  | 7, _ => rfl

set_option maxRecDepth 100000 in
set_option maxHeartbeats 1000000 in
theorem names_calls (a : Nat → Addr) (B : Nat) (w : World) (hG : Gl a B w) :
    Calls Tryd.prog 7 #[] w fun e w' => ∃ vs, e = .returned (.tuple #[.slice (some ⟨w.heap.size, 0, none⟩) 5 5, vs, .int .i64 3]) ∧
      w'.heap[w.heap.size]? = some (.cells #[.int .i64 300, .int .i64 8, .int .i64 40, .int .i64 120, .int .i64 12] 3 (0, 0)) ∧
      w'.ownsRow (w.heap.size + 2) 4 1 vs 128 (bl 128) ∧ Below w.heap.size w w' := by
  have hhi := hG.hi
  have g0 := hG.v0
  have p0 : 0 < w.heap.size := lt_of_cell hG.v0
  have g1 := hG.v1
  have p1 : 1 < w.heap.size := lt_of_cell hG.v1
  have g2 := hG.v2
  have p2 : 2 < w.heap.size := lt_of_cell hG.v2
  have g3 := hG.v3
  have p3 : 3 < w.heap.size := lt_of_cell hG.v3
  have g4 := hG.v4
  have p4 : 4 < w.heap.size := lt_of_cell hG.v4
  have g5 := hG.v5
  have p5 : 5 < w.heap.size := lt_of_cell hG.v5
  have g6 := hG.v6
  have p6 : 6 < w.heap.size := lt_of_cell hG.v6
  have g7 := hG.v7
  have p7 : 7 < w.heap.size := lt_of_cell hG.v7
  go_enter Tryd.func7, Tryd.ntmps7
  go_wp2
  have hG2 : Gl a B ((w.alloc (.cells #[.int .i64 300, .int .i64 8, .int .i64 40, .int .i64 120, .int .i64 12] 3)).alloc (.cells (errArr a) 52)) :=
    hG.below (((Below.refl B w).alloc hhi _).alloc (by simp; omega) _)
  have hB2 : Below w.heap.size w ((w.alloc (.cells #[.int .i64 300, .int .i64 8, .int .i64 40, .int .i64 120, .int .i64 12] 3)).alloc (.cells (errArr a) 52)) :=
    ((Below.refl _ w).alloc (Nat.le_refl _) _).alloc (by simp) _
  have hb0 : ((w.alloc (.cells #[.int .i64 300, .int .i64 8, .int .i64 40, .int .i64 120, .int .i64 12] 3)).alloc (.cells (errArr a) 52)).heap[w.heap.size]? = some (.cells #[.int .i64 300, .int .i64 8, .int .i64 40, .int .i64 120, .int .i64 12] 3 (0, 0)) :=
    block_alloc_old (block_alloc _ _)
  have hb1 : ((w.alloc (.cells #[.int .i64 300, .int .i64 8, .int .i64 40, .int .i64 120, .int .i64 12] 3)).alloc (.cells (errArr a) 52)).heap[w.heap.size + 1]? = some (.cells (errArr a) 52 (0, 0)) := by
    rw [show w.heap.size + 1 = (w.alloc (.cells #[.int .i64 300, .int .i64 8, .int .i64 40, .int .i64 120, .int .i64 12] 3)).heap.size by simp]; exact block_alloc _ _
  have hs2 : w.heap.size + 2 = ((w.alloc (.cells #[.int .i64 300, .int .i64 8, .int .i64 40, .int .i64 120, .int .i64 12] 3)).alloc (.cells (errArr a) 52)).heap.size := by simp
  have hb1' := hb1
  unfold errArr at hb1' hs2 hb0 hb1 hB2 hG2
  go_loopg [1, 23] 9 (fun g v c wr => ∃ k : Nat, k ≤ 8 ∧ g = 9 - k ∧ c = .int .i64 k ∧ wr.ownsRow (w.heap.size + 2) 4 1 v (bl (16 * k)).length (bl (16 * k)) ∧ Gl a B wr ∧ Below w.heap.size w wr ∧
      wr.heap[w.heap.size]? = some (.cells #[.int .i64 300, .int .i64 8, .int .i64 40, .int .i64 120, .int .i64 12] 3 (0, 0)) ∧ wr.heap[w.heap.size + 1]? = some (.cells (errArr a) 52 (0, 0)) ∧ w.heap.size + 2 ≤ wr.heap.size)
  case atStart => exact ⟨0, by omega, rfl, rfl, World.ownsRow_nil _ _ _ _, hG2, hB2, hb0, hb1, by omega⟩
  case round =>
    obtain ⟨k, hk, hg, rfl, hown, hGr, hBr, hr0, hr1, hsz⟩ := hrel
    clear hG2 hB2 hb0 hb1 hb1' hs2 g0 g1 g2 g3 g4 g5 g6 g7 p0 p1 p2 p3 p4 p5 p6 p7
    have HG := Lib.hid hg
    have HR0 := Lib.hid hr0
    have HR1 := Lib.hid hr1
    clear hg hr0 hr1
    by_cases hlt : k < 8
    · have ek : wr.cell? ⟨w.heap.size + 1, k, none⟩ = some (sent a k) := (cell_of_block HR1.out k).trans (errArr_at a k hlt)
      have hdk : decide ((k : Int) < 8) = true := by simp; omega
      go_wp2
      clear hdk
      have hE : (wr.alloc (.cells #[.string ⟨#[120]⟩, sent a k] 56)).heap[wr.heap.size]? = some (.cells #[.string ⟨#[120]⟩, sent a k] 56 (0, 0)) := block_alloc _ _
      have HE := Lib.hid hE
      clear hE ek
      have hsl : Below w.heap.size w (wr.alloc (.cells #[.string ⟨#[120]⟩, sent a k] 56)) := hBr.alloc (by omega) _
      go_loopg [1, 33] 9 (fun g v c wi => ∃ j : Nat, j ≤ 8 ∧ g = 9 - j ∧ c = .int .i64 j ∧ wi.ownsRow (w.heap.size + 2) 4 1 v (bl (16 * k + 2 * j)).length (bl (16 * k + 2 * j)) ∧ Gl a B wi ∧ Below w.heap.size w wi ∧
          wi.heap[w.heap.size]? = some (.cells #[.int .i64 300, .int .i64 8, .int .i64 40, .int .i64 120, .int .i64 12] 3 (0, 0)) ∧ wi.heap[w.heap.size + 1]? = some (.cells (errArr a) 52 (0, 0)) ∧
          wi.heap[wr.heap.size]? = some (.cells #[.string ⟨#[120]⟩, sent a k] 56 (0, 0)) ∧ wr.heap.size + 1 ≤ wi.heap.size)
      case atStart => exact ⟨0, by omega, rfl, rfl, hown.alloc _, hGr.below ((Below.refl _ _).alloc hGr.hi _), hsl, block_alloc_old HR0.out, block_alloc_old HR1.out, HE.out, by simp⟩
      case round =>
        obtain ⟨j, hj, hgj, rfl, hown', hGi, hBi, hi0, hi1, hiE, hsi⟩ := hrel
        have HG8 := HG
        clear HG HR0 HR1 HE hown hGr hBr hsl
        have HI0 := Lib.hid hi0
        have HI1 := Lib.hid hi1
        have HIE := Lib.hid hiE
        have HGJ := Lib.hid hgj
        clear hi0 hi1 hiE hgj
        have bl2 := bl_length (16 * k + 2 * j)
        have hbl2 := bl_two k j
        have HB2 := Lib.hid hbl2
        have HL2 := Lib.hid bl2
        clear bl2 hbl2
        by_cases hltj : j < 8
        · have ej : wr.cell? ⟨w.heap.size + 1, j, none⟩ = some (sent a j) := (cell_of_block HI1.out j).trans (errArr_at a j hltj)
          have eE := (cell_of_block HIE.out 1)
          obtain ⟨ib, hib, hib0, hib1, hib2⟩ := info_parts infoBool
          go_wp2_with fail
          refine (is_ij wr hGi k j hlt hltj).mono ?_
          rintro e w1 ⟨rfl, rfl⟩
          go_wp2_with fail
          refine (is_env_ij wr hGi _ k j hlt hltj eE).mono ?_
          rintro e w1 ⟨rfl, rfl⟩
          go_wp2_with (at_builtin; go_must (refine wpList_append_own _ rfl _ _ 23 rfl (w.heap.size + 2) 4 ib (.bool false) 1 1 Tryd.underlying23 hib hib0 hib1 hib2 rfl (by decide) _ _ _ rfl (hown'.alloc _) ⟨wr.heap.size, 0, none⟩ 2 2 [.bool (decide (k = j)), .bool (decide (k = j))] rfl rfl ?c1 ?c2 ?c3 ?c4 ?c5 ?_))
          case c1 => exact cells_new wr [.bool (decide (k = j)), .bool (decide (k = j))] 4
          case c2 => intro u hu; simp at hu; subst hu; rfl
          case c3 => have := HL2.out; unfold maxLen; omega
          case c4 => have := HL2.out; omega
          case c5 => simp; omega
          intro v' w1 hown1 hgrow _hnil
          clear ej eE hib hib0 hib1 hib2
          go_wp2
          go_roundg (9 - (j + 1))
          case measure => have := HGJ.out; omega
          case rel =>
            have hrow : ∀ x, u1.ownBlock = some x → w.heap.size + 2 ≤ x := fun x hx => (hown'.lt x hx).1
            have hal : wr.grownBy (wr.alloc (.cells #[.bool (decide (k = j)), .bool (decide (k = j))] 4)) none := World.grownBy_alloc _ _ _
            have hne0 : ∀ b, b < w.heap.size + 2 → some b ≠ u1.ownBlock := fun b hb e => by have := hrow b e.symm; omega
            have keep : ∀ (b : Nat) (o : Obj), wr.heap[b]? = some o → some b ≠ u1.ownBlock → w1.heap[b]? = some o := fun b o hb hn => by
              rw [hgrow.block b (by have := lt_of_some hb; simp; omega) hn]; exact block_alloc_old hb
            have e16 : 16 * k + 2 * (j + 1) = 16 * k + 2 * j + 2 := by omega
            refine ⟨j + 1, by omega, rfl, by go_num, ?_, ?_, ?_, keep _ _ HI0.out (hne0 _ (by omega)), keep _ _ HI1.out (hne0 _ (by omega)), keep _ _ HIE.out (ownsRow_ne hown' HIE.out (by decide)), ?_⟩
            · rw [e16, HB2.out hltj]; simpa using hown1
            · refine hGi.keep (Nat.le_trans hGi.hi (Nat.le_trans (by simp) hgrow.size)) (fun b hb => ?_)
              rw [hgrow.block b (by simp; have := hGi.hi; omega) (fun e => by have := hrow b e.symm; omega)]
              exact Below.heap_alloc _ _ _ (by have := hGi.hi; omega)
            · exact (hBi.alloc (by have := hBi.size; omega) _).grown hgrow (by have := hBi.size; simp; omega) (fun x hx => by have := hrow x hx; omega)
            · have := hgrow.size; simp at this; omega
        · obtain rfl : j = 8 := by omega
          go_wp2
          go_roundg (9 - (k + 1))
          case measure => have := HG8.out; omega
          case rel =>
            refine ⟨k + 1, by omega, rfl, by go_num, ?_, hGi, hBi, HI0.out, HI1.out, by omega⟩
            rw [show 16 * (k + 1) = 16 * k + 2 * 8 by omega]
            exact hown'
    · obtain rfl : k = 8 := by omega
      have hGt := fun o o' o'' => (hGr.below (((((Below.refl B wr).alloc hGr.hi o).alloc (by simp; have := hGr.hi; omega) o').alloc (by simp; have := hGr.hi; omega) o''))).ty
      clear hG hGr
      go_wp2_with fail
      refine (as_envSyn (wr.heap.size + 2) ⟨wr.heap.size + 1, 0, none⟩ ⟨wr.heap.size, 0, none⟩ (.pointer none) _ (hGt _ _ _) ?_ ?_ ?_).mono ?_
      · rw [World.cell?_alloc_at _ _ _ _ (by simp)]; rfl
      · simp [go_sem]
      · simp [go_sem]
      rintro e w1 ⟨rfl, rfl⟩
      go_wp2
      go_ret3
      refine ⟨u1, rfl, ?_, ?_, ?_⟩
      · repeat (refine block_alloc_old ?_)
        exact HR0.out
      · repeat (refine World.ownsRow.alloc ?_ _)
        exact hown
      · repeat (refine Below.alloc ?_ (by simp; omega) _)
        exact hBr.alloc (by omega) _

end Go.Proofs.YtpbplpnifjbkoaaDoor

/-
  The document's atom where it is a name or a number.
-/
import Derived.Test.YtpbplpnifjbkoaaDoorRref
namespace Go.Proofs.YtpbplpnifjbkoaaDoor
open Go.RowKit

set_option maxRecDepth 100000 in
set_option maxHeartbeats 2000000 in
theorem ratom_name {r n : Nat} {ts : List Tok} {w : World} (h : RC r ts (-1) w) (hk : headKind ts = .name) (res : Except Nat (Exp × List Tok)) (hres : pAtom (n + 1) ts = some res) :
    Calls Tryd.prog 51 #[.pointer (some ⟨r, 0, none⟩)] w (RPost r w id res) := by
  have HC := Lib.hid h
  obtain rfl : res = .ok (.name (headPos ts) (headText ts), adv ts) := by
    unfold pAtom at hres
    simp only [hk, if_true] at hres
    simpa using hres.symm
  obtain ⟨g, n', cap, kk, x, c0, c1, c2, hlt, t0, t1, hx, t2, hn⟩ := h.cells
  obtain rfl := hx (by rw [hk]; decide)
  have hr : r < w.heap.size := lt_of_cell c0
  have hg : g < w.heap.size := lt_of_cell t0
  rw [hk] at t0
  have HE := Lib.hid hk
  clear h hx hres hk
  go_enter Tryd.func51, Tryd.ntmps51
  go_wp2_with fail
  go_region
  clear c0 c1 c2 hlt t0 t1 t2
  have HK1 := Lib.hid (show Keeps [] w (w.alloc (.cells #[.string (bs (rstr .name)), .string (bs (headText ts)), .int .i64 (headPos ts)] 122)).drew from ((Keeps.refl [] w).alloc _).drew)
  have HB1 := Lib.hid (show (w.alloc (.cells #[.string (bs (rstr .name)), .string (bs (headText ts)), .int .i64 (headPos ts)] 122)).drew.heap[w.heap.size]? = some (.cells #[.string (bs (rstr .name)), .string (bs (headText ts)), .int .i64 (headPos ts)] 122 (0, 0)) from block_alloc w _)
  go_wp2_with fail
  refine (rtake_yes (HC.out.keep HK1.out) .name _ rfl HE.out).mono ?_
  rintro e w2 ⟨rfl, hrc, hk, hc2⟩
  have HRC := Lib.hid (hrc (by decide) (by decide))
  have HK2 := Lib.hid (HK1.out.mono (M' := [r]) (by simp) |>.trans hk (fun m hm => Or.inl hm))
  have hb2 := hk.some HB1.out (by simp; omega)
  have q0 : w2.cell? ⟨w.heap.size, 0, none⟩ = some (.string (bs (rstr .name))) := cell_of_block hb2 0
  have q1 : w2.cell? ⟨w.heap.size, 1, none⟩ = some (.string (bs (headText ts))) := cell_of_block hb2 1
  have q2 : w2.cell? ⟨w.heap.size, 2, none⟩ = some (.int .i64 (headPos ts)) := cell_of_block hb2 2
  have hw : w.heap.size < w2.heap.size := lt_of_some hb2
  clear hk hrc hc2 hb2
  go_wp2
  have hb := block_alloc (w2.alloc (.cells #[.string (bs (headText ts))] 9)) (.cells #[.string (bs (rstr .name)), .slice (some ⟨w2.heap.size, 0, none⟩) 1 1, .slice none 0 0, .int .i64 (headPos ts)] 77)
  have hs1 : (w2.alloc (.cells #[.string (bs (headText ts))] 9)).heap.size = w2.heap.size + 1 := by simp
  have hb0 := block_alloc_old (o' := .cells #[.string (bs (rstr .name)), .slice (some ⟨w2.heap.size, 0, none⟩) 1 1, .slice none 0 0, .int .i64 (headPos ts)] 77) (block_alloc w2 (.cells #[.string (bs (headText ts))] 9))
  rw [hs1] at hb
  have hk3 := ((Keeps.refl [] w2).alloc (.cells #[.string (bs (headText ts))] 9)).alloc (.cells #[.string (bs (rstr .name)), .slice (some ⟨w2.heap.size, 0, none⟩) 1 1, .slice none 0 0, .int .i64 (headPos ts)] 77)
  refine bodyPost_ret (v := .pointer (some ⟨w2.heap.size + 1, 0, none⟩)) (by simp [results, Tryd.results51, go_sem]) rfl ⟨HK2.out.trans0 hk3, w2.heap.size + 1, rfl, ⟨rfl, rfl, w2.heap.size + 1, _, _, ?_, ?_, rfl, hb, .inr ⟨w2.heap.size, 1, _, rfl, ?_, ?_, hb0, by simp, by decide, rfl, rfl⟩, .inl ⟨rfl, rfl⟩⟩, HRC.out.keep hk3⟩
  · omega
  · simp
  · omega
  · simp; omega
set_option maxRecDepth 100000 in
set_option maxHeartbeats 2000000 in
theorem ratom_num {r n : Nat} {ts : List Tok} {w : World} (h : RC r ts (-1) w) (hk : headKind ts = .num) (res : Except Nat (Exp × List Tok)) (hres : pAtom (n + 1) ts = some res) :
    Calls Tryd.prog 51 #[.pointer (some ⟨r, 0, none⟩)] w (RPost r w id res) := by
  have HC := Lib.hid h
  obtain rfl : res = .ok (.num (headPos ts) (headText ts), adv ts) := by
    unfold pAtom at hres
    simp only [hk, if_true, reduceCtorEq, if_false] at hres
    simpa using hres.symm
  obtain ⟨g, n', cap, kk, x, c0, c1, c2, hlt, t0, t1, hx, t2, hn⟩ := h.cells
  obtain rfl := hx (by rw [hk]; decide)
  have hr : r < w.heap.size := lt_of_cell c0
  have hg : g < w.heap.size := lt_of_cell t0
  rw [hk] at t0
  have HE := Lib.hid hk
  clear h hx hres hk
  go_enter Tryd.func51, Tryd.ntmps51
  go_wp2_with fail
  go_region
  clear c0 c1 c2 hlt t0 t1 t2
  have HK1 := Lib.hid (show Keeps [] w (w.alloc (.cells #[.string (bs (rstr .num)), .string (bs (headText ts)), .int .i64 (headPos ts)] 122)).drew from ((Keeps.refl [] w).alloc _).drew)
  have HB1 := Lib.hid (show (w.alloc (.cells #[.string (bs (rstr .num)), .string (bs (headText ts)), .int .i64 (headPos ts)] 122)).drew.heap[w.heap.size]? = some (.cells #[.string (bs (rstr .num)), .string (bs (headText ts)), .int .i64 (headPos ts)] 122 (0, 0)) from block_alloc w _)
  go_wp2_with fail
  refine (rtake_no (HC.out.keep HK1.out) .name _ rfl (by rw [HE.out]; decide)).mono ?_
  rintro e w1 ⟨rfl, hkz⟩
  have HKZ := Lib.hid hkz
  clear hkz
  go_wp2_with fail
  refine (rtake_yes ((HC.out.keep HK1.out).keep HKZ.out) .num _ rfl HE.out).mono ?_
  rintro e w2 ⟨rfl, hrc, hk, hc2⟩
  have HRC := Lib.hid (hrc (by decide) (by decide))
  have HK2 := Lib.hid ((HK1.out.trans0 HKZ.out).mono (M' := [r]) (by simp) |>.trans hk (fun m hm => Or.inl hm))
  have hb2 := hk.some (HKZ.out.some HB1.out (by simp)) (by simp; omega)
  have q0 : w2.cell? ⟨w.heap.size, 0, none⟩ = some (.string (bs (rstr .num))) := cell_of_block hb2 0
  have q1 : w2.cell? ⟨w.heap.size, 1, none⟩ = some (.string (bs (headText ts))) := cell_of_block hb2 1
  have q2 : w2.cell? ⟨w.heap.size, 2, none⟩ = some (.int .i64 (headPos ts)) := cell_of_block hb2 2
  have hw : w.heap.size < w2.heap.size := lt_of_some hb2
  clear hk hrc hc2 hb2
  go_wp2
  have hb := block_alloc (w2.alloc (.cells #[.string (bs (headText ts))] 9)) (.cells #[.string (bs (rstr .num)), .slice (some ⟨w2.heap.size, 0, none⟩) 1 1, .slice none 0 0, .int .i64 (headPos ts)] 77)
  have hs1 : (w2.alloc (.cells #[.string (bs (headText ts))] 9)).heap.size = w2.heap.size + 1 := by simp
  have hb0 := block_alloc_old (o' := .cells #[.string (bs (rstr .num)), .slice (some ⟨w2.heap.size, 0, none⟩) 1 1, .slice none 0 0, .int .i64 (headPos ts)] 77) (block_alloc w2 (.cells #[.string (bs (headText ts))] 9))
  rw [hs1] at hb
  have hk3 := ((Keeps.refl [] w2).alloc (.cells #[.string (bs (headText ts))] 9)).alloc (.cells #[.string (bs (rstr .num)), .slice (some ⟨w2.heap.size, 0, none⟩) 1 1, .slice none 0 0, .int .i64 (headPos ts)] 77)
  refine bodyPost_ret (v := .pointer (some ⟨w2.heap.size + 1, 0, none⟩)) (by simp [results, Tryd.results51, go_sem]) rfl ⟨HK2.out.trans0 hk3, w2.heap.size + 1, rfl, ⟨rfl, rfl, w2.heap.size + 1, _, _, ?_, ?_, rfl, hb, .inr ⟨w2.heap.size, 1, _, rfl, ?_, ?_, hb0, by simp, by decide, rfl, rfl⟩, .inl ⟨rfl, rfl⟩⟩, HRC.out.keep hk3⟩
  · omega
  · simp
  · omega
  · simp; omega
end Go.Proofs.YtpbplpnifjbkoaaDoor

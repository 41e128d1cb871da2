/-
  A parser's call, by contract. Printed by gen_parse.py.
-/
import Derived.Test.YtpbplpnifjbkoabGreatDoorExpx
import Derived.Test.YtpbplpnifjbkoabGreatDoorPaRec
import Derived.Deep.LoopGhost
namespace Go.Proofs.YtpbplpnifjbkoabGreatDoor
open Go.RowKit

set_option maxRecDepth 100000 in
set_option maxHeartbeats 4000000 in
theorem expr_lam (s : ByteArray) (r t n : Nat) (ih : ExpIH s r t n) (ts : List Tok) (w0 : World) (res : Except Nat (Exp × List Tok)) (hC0 : PC s r t ts w0) (h1 : headKind ts = .kFun)
    (hres : pExp (n + 1) ts = some res) : Calls Tryz.prog 87 #[.pointer (some ⟨r, 0, none⟩)] w0 (PPost s r t w0 id res) := by
  unfold pExp at hres
  simp only [h1, if_true] at hres
  obtain ⟨hd, hat, hn, hts⟩ := hC0.rd.ex
  have hpos := (headOf hts).2.2
  have hkd := (headOf hts).1
  have c0 : w0.cell? ⟨r, 0, none⟩ = some (.pointer (some ⟨t, 0, none⟩)) := cell_of_block hC0.ptr 0
  have c4 : w0.cell? ⟨t, 4, none⟩ = some (.int .i64 (headPos ts)) := by rw [hpos]; exact cell_of_block hat 4
  have c2 : w0.cell? ⟨t, 2, none⟩ = some (.string (bs (kstr (headKind ts)))) := by rw [hkd]; exact cell_of_block hat 2
  clear hat hn hts hpos hkd
  have ht0 := hC0.lt
  have hr0 := hC0.rlt
  have hne : r ≠ t := hC0.ne
  have HC0 := Lib.hid hC0
  have HK0 := Lib.hid (Keeps.refl [t] w0)
  have HR0 := Lib.hid hres
  have HNE := Lib.hid hne
  clear hC0 hres hne
  go_enter Tryz.func87, Tryz.ntmps87
  go_wp2_with fail
  refine (take_yes kwExpFn HC0.out.rd .kFun _ rfl h1 (by decide) (by decide)).mono ?_
  rintro e w1 ⟨rfl, hr, hk⟩
  have HC1 := Lib.hid (HC0.out.of_rd hk hr)
  have HK1 := Lib.hid (HK0.out.trans hk (fun m hm => Or.inl hm))
  have hsz1 : w0.heap.size ≤ w1.heap.size := hk.size
  clear hr hk
  clear c0
  have c0 : w1.cell? ⟨r, 0, none⟩ = some (.pointer (some ⟨t, 0, none⟩)) := cell_of_block HC1.out.ptr 0
  go_wp2_with fail
  rcases want_cases HR0.out with ⟨hne, rfl⟩ | ⟨heq, hrs⟩
  · refine (want_no HC1.out.rd .name _ rfl hne).mono ?_
    rintro e w' ⟨rfl, rfl⟩
    exact ⟨rfl, perr HK1.out⟩
  refine (want_yes kwExpFn HC1.out.rd .name _ rfl heq).mono ?_
  rintro e w2 ⟨rfl, hr, hk⟩
  have HC2 := Lib.hid (HC1.out.of_rd hk (hr (by decide) (by decide)))
  have HK2 := Lib.hid (HK1.out.trans hk (fun m hm => Or.inl hm))
  have HR1 := Lib.hid hrs
  have hsz2 : w1.heap.size ≤ w2.heap.size := hk.size
  clear hr hk hrs heq
  clear c0
  have c0 : w2.cell? ⟨r, 0, none⟩ = some (.pointer (some ⟨t, 0, none⟩)) := cell_of_block HC2.out.ptr 0
  go_wp2_with fail
  rcases want_cases HR1.out with ⟨hne, rfl⟩ | ⟨heq, hrs⟩
  · refine (want_no HC2.out.rd .arrow _ rfl hne).mono ?_
    rintro e w' ⟨rfl, rfl⟩
    exact ⟨rfl, perr HK2.out⟩
  refine (want_yes kwExpFn HC2.out.rd .arrow _ rfl heq).mono ?_
  rintro e w3 ⟨rfl, hr, hk⟩
  have HC3 := Lib.hid (HC2.out.of_rd hk (hr (by decide) (by decide)))
  have HK3 := Lib.hid (HK2.out.trans hk (fun m hm => Or.inl hm))
  have HR2 := Lib.hid hrs
  have hsz3 : w2.heap.size ≤ w3.heap.size := hk.size
  clear hr hk hrs heq
  clear c0
  have c0 : w3.cell? ⟨r, 0, none⟩ = some (.pointer (some ⟨t, 0, none⟩)) := cell_of_block HC3.out.ptr 0
  go_wp2_with fail
  rcases bind_some HR2.out with ⟨p, hp, rfl⟩ | ⟨b, ts4, hp, hrs⟩
  · refine (ih _ _ _ HC3.out hp).mono ?_
    rintro e w' ⟨rfl, hk⟩
    exact ⟨rfl, perr (HK3.out.trans hk (fun m hm => Or.inl hm))⟩
  refine (ih _ _ _ HC3.out hp).mono ?_
  rintro e w4 ⟨tyb, bbb, rfl, hv, hC, hk⟩
  have HC4 := Lib.hid hC
  have HK4 := Lib.hid (HK3.out.trans hk (fun m hm => Or.inl hm))
  have HR3 := Lib.hid hrs
  have hsz4 : w3.heap.size ≤ w4.heap.size := hk.size
  have HVb := Lib.hid (show ExprAt w4 w3.heap.size w4.heap.size b [] [] (ifp tyb bbb) from hv)
  clear hC hk hv hp hrs
  clear c0
  have c0 : w4.cell? ⟨r, 0, none⟩ = some (.pointer (some ⟨t, 0, none⟩)) := cell_of_block HC4.out.ptr 0
  obtain rfl : res = .ok (.lam (headPos ts) (headText (adv ts)) b, ts4) := by have := HR3.out; simpa using this.symm
  go_wp2
  go_ret
  have hk := (Keeps.refl [] w4).alloc (.cells #[.int .i64 (headPos ts), .string (bs (headText (adv ts))), ifp tyb bbb] 214)
  refine ⟨_, _, rfl, ⟨rfl, rfl, w4.heap.size, _, ?_, ?_, rfl, block_alloc _ _, ?_⟩, HC4.out.keep hk (by simp) (by simp), HK4.out.trans hk (by simp)⟩
  · omega
  · simp
  · exact HVb.out.move hk (by omega) (by simp) (by omega) (by simp)
end Go.Proofs.YtpbplpnifjbkoabGreatDoor

namespace Go.Proofs.YtpbplpnifjbkoabGreatDoor
open Go.RowKit

set_option maxRecDepth 100000 in
set_option maxHeartbeats 4000000 in
theorem expr_cond (s : ByteArray) (r t n : Nat) (ih : ExpIH s r t n) (ts : List Tok) (w0 : World) (res : Except Nat (Exp × List Tok)) (hC0 : PC s r t ts w0) (h1 : headKind ts = .kIf)
    (hres : pExp (n + 1) ts = some res) : Calls Tryz.prog 87 #[.pointer (some ⟨r, 0, none⟩)] w0 (PPost s r t w0 id res) := by
  unfold pExp at hres
  simp only [h1, if_true, reduceCtorEq, if_false] at hres
  obtain ⟨hd, hat, hn, hts⟩ := hC0.rd.ex
  have hpos := (headOf hts).2.2
  have hkd := (headOf hts).1
  have c0 : w0.cell? ⟨r, 0, none⟩ = some (.pointer (some ⟨t, 0, none⟩)) := cell_of_block hC0.ptr 0
  have c4 : w0.cell? ⟨t, 4, none⟩ = some (.int .i64 (headPos ts)) := by rw [hpos]; exact cell_of_block hat 4
  have c2 : w0.cell? ⟨t, 2, none⟩ = some (.string (bs (kstr (headKind ts)))) := by rw [hkd]; exact cell_of_block hat 2
  clear hat hn hts hpos hkd
  have ht0 := hC0.lt
  have hr0 := hC0.rlt
  have hne : r ≠ t := hC0.ne
  have HC0 := Lib.hid hC0
  have HK0 := Lib.hid (Keeps.refl [t] w0)
  have HR0 := Lib.hid hres
  have HNE := Lib.hid hne
  clear hC0 hres hne
  go_enter Tryz.func87, Tryz.ntmps87
  go_wp2_with fail
  refine (take_no HC0.out.rd .kFun _ rfl (by rw [h1]; decide)).mono ?_
  rintro e w' ⟨rfl, rfl⟩
  go_wp2_with fail
  refine (take_yes kwExpFn HC0.out.rd .kIf _ rfl h1 (by decide) (by decide)).mono ?_
  rintro e w1 ⟨rfl, hr, hk⟩
  have HC1 := Lib.hid (HC0.out.of_rd hk hr)
  have HK1 := Lib.hid (HK0.out.trans hk (fun m hm => Or.inl hm))
  have hsz1 : w0.heap.size ≤ w1.heap.size := hk.size
  clear hr hk
  clear c0
  have c0 : w1.cell? ⟨r, 0, none⟩ = some (.pointer (some ⟨t, 0, none⟩)) := cell_of_block HC1.out.ptr 0
  go_wp2_with fail
  rcases bind_some HR0.out with ⟨p, hp, rfl⟩ | ⟨c, ts2, hp, hrs⟩
  · refine (ih _ _ _ HC1.out hp).mono ?_
    rintro e w' ⟨rfl, hk⟩
    exact ⟨rfl, perr (HK1.out.trans hk (fun m hm => Or.inl hm))⟩
  refine (ih _ _ _ HC1.out hp).mono ?_
  rintro e w2 ⟨tyc, bbc, rfl, hv, hC, hk⟩
  have HC2 := Lib.hid hC
  have HK2 := Lib.hid (HK1.out.trans hk (fun m hm => Or.inl hm))
  have HR1 := Lib.hid hrs
  have hsz2 : w1.heap.size ≤ w2.heap.size := hk.size
  have HVc := Lib.hid (show ExprAt w2 w1.heap.size w2.heap.size c [] [] (ifp tyc bbc) from hv)
  clear hC hk hv hp hrs
  clear c0
  have c0 : w2.cell? ⟨r, 0, none⟩ = some (.pointer (some ⟨t, 0, none⟩)) := cell_of_block HC2.out.ptr 0
  have hk : Keeps [] w2 (w2.alloc (.cells #[.int .i64 (headPos ts), ifp tyc bbc, .nilIface, .nilIface] 259)) := (Keeps.refl [] w2).alloc (.cells #[.int .i64 (headPos ts), ifp tyc bbc, .nilIface, .nilIface] 259)
  have HC3 := Lib.hid (HC2.out.keep hk (by simp) (by simp))
  have HK3 := Lib.hid (HK2.out.trans hk (by simp))
  have hal3 : (w2.alloc (.cells #[.int .i64 (headPos ts), ifp tyc bbc, .nilIface, .nilIface] 259)).heap.size = w2.heap.size + 1 := by simp
  have hal3' : w2.heap.size < (w2.alloc (.cells #[.int .i64 (headPos ts), ifp tyc bbc, .nilIface, .nilIface] 259)).heap.size := by rw [hal3]; exact Nat.lt_succ_self _
  have hsz3 : w2.heap.size ≤ (w2.alloc (.cells #[.int .i64 (headPos ts), ifp tyc bbc, .nilIface, .nilIface] 259)).heap.size := hk.size
  have HVc := Lib.hid (HVc.out.move hk (by omega) (by simp <;> omega) (Nat.le_refl _) (Nat.le_refl _))
  have HBx := Lib.hid (block_alloc w2 (.cells #[.int .i64 (headPos ts), ifp tyc bbc, .nilIface, .nilIface] 259))
  clear hk
  have hrl : r < w2.heap.size := by omega
  go_wp2_with fail
  rcases want_cases HR1.out with ⟨hne, rfl⟩ | ⟨heq, hrs⟩
  · refine (want_no HC3.out.rd .kThen _ rfl hne).mono ?_
    rintro e w' ⟨rfl, rfl⟩
    exact ⟨rfl, perr HK3.out⟩
  refine (want_yes kwExpFn HC3.out.rd .kThen _ rfl heq).mono ?_
  rintro e w4 ⟨rfl, hr, hk⟩
  have HC4 := Lib.hid (HC3.out.of_rd hk (hr (by decide) (by decide)))
  have HK4 := Lib.hid (HK3.out.trans hk (fun m hm => Or.inl hm))
  have HR2 := Lib.hid hrs
  have hsz4 : (w2.alloc (.cells #[.int .i64 (headPos ts), ifp tyc bbc, .nilIface, .nilIface] 259)).heap.size ≤ w4.heap.size := hk.size
  have HVc := Lib.hid (HVc.out.move hk (by omega) (by simp <;> omega) (Nat.le_refl _) (Nat.le_refl _))
  have HBx := Lib.hid (hk.some HBx.out (by simp <;> omega))
  clear hr hk hrs heq
  clear c0
  have c0 : w4.cell? ⟨r, 0, none⟩ = some (.pointer (some ⟨t, 0, none⟩)) := cell_of_block HC4.out.ptr 0
  go_wp2_with fail
  rcases bind_some HR2.out with ⟨p, hp, rfl⟩ | ⟨a, ts5, hp, hrs⟩
  · refine (ih _ _ _ HC4.out hp).mono ?_
    rintro e w' ⟨rfl, hk⟩
    exact ⟨rfl, perr (HK4.out.trans hk (fun m hm => Or.inl hm))⟩
  refine (ih _ _ _ HC4.out hp).mono ?_
  rintro e w5 ⟨tya, bba, rfl, hv, hC, hk⟩
  have HC5 := Lib.hid hC
  have HK5 := Lib.hid (HK4.out.trans hk (fun m hm => Or.inl hm))
  have HR3 := Lib.hid hrs
  have hsz5 : w4.heap.size ≤ w5.heap.size := hk.size
  have HVc := Lib.hid (HVc.out.move hk (by omega) (by simp <;> omega) (Nat.le_refl _) (Nat.le_refl _))
  have HBx := Lib.hid (hk.some HBx.out (by simp <;> omega))
  have HVa := Lib.hid (show ExprAt w5 w4.heap.size w5.heap.size a [] [] (ifp tya bba) from hv)
  clear hC hk hv hp hrs
  clear c0
  have c0 : w5.cell? ⟨r, 0, none⟩ = some (.pointer (some ⟨t, 0, none⟩)) := cell_of_block HC5.out.ptr 0
  have cs : w5.cell? ⟨w2.heap.size, 2, none⟩ = some .nilIface := cell_of_block HBx.out 2
  have fs : w5.frozen? ⟨w2.heap.size, 2, none⟩ = false := free_of_block HBx.out 2
  go_wp2_with fail
  have hk : Keeps [w2.heap.size] w5 (w5.setCell ⟨w2.heap.size, 2, none⟩ (ifp tya bba)) := (Keeps.refl [w2.heap.size] w5).setCell (Or.inl (by simp)) _
  have HC6 := Lib.hid (HC5.out.keep hk (by simp <;> omega) (by simp <;> omega))
  have HK6 := Lib.hid (HK5.out.trans hk (fun m hm => Or.inr (by simp at hm <;> omega)))
  have hsz6 : w5.heap.size ≤ (w5.setCell ⟨w2.heap.size, 2, none⟩ (ifp tya bba)).heap.size := hk.size
  have hse6 : (w5.setCell ⟨w2.heap.size, 2, none⟩ (ifp tya bba)).heap.size = w5.heap.size := by simp
  have HVc := Lib.hid (HVc.out.move hk (by omega) (by simp <;> omega) (Nat.le_refl _) (Nat.le_refl _))
  have HVa := Lib.hid (HVa.out.move hk (by omega) (by simp <;> omega) (Nat.le_refl _) (Nat.le_refl _))
  have HBx := Lib.hid (block_setCell HBx.out 2 (ifp tya bba))
  clear hk cs fs
  go_wp2_with fail
  rcases want_cases HR3.out with ⟨hne, rfl⟩ | ⟨heq, hrs⟩
  · refine (want_no HC6.out.rd .kElse _ rfl hne).mono ?_
    rintro e w' ⟨rfl, rfl⟩
    exact ⟨rfl, perr HK6.out⟩
  refine (want_yes kwExpFn HC6.out.rd .kElse _ rfl heq).mono ?_
  rintro e w7 ⟨rfl, hr, hk⟩
  have HC7 := Lib.hid (HC6.out.of_rd hk (hr (by decide) (by decide)))
  have HK7 := Lib.hid (HK6.out.trans hk (fun m hm => Or.inl hm))
  have HR4 := Lib.hid hrs
  have hsz7 : (w5.setCell ⟨w2.heap.size, 2, none⟩ (ifp tya bba)).heap.size ≤ w7.heap.size := hk.size
  have HVc := Lib.hid (HVc.out.move hk (by omega) (by simp <;> omega) (Nat.le_refl _) (Nat.le_refl _))
  have HVa := Lib.hid (HVa.out.move hk (by omega) (by simp <;> omega) (Nat.le_refl _) (Nat.le_refl _))
  have HBx := Lib.hid (hk.some HBx.out (by simp <;> omega))
  clear hr hk hrs heq
  clear c0
  have c0 : w7.cell? ⟨r, 0, none⟩ = some (.pointer (some ⟨t, 0, none⟩)) := cell_of_block HC7.out.ptr 0
  go_wp2_with fail
  rcases bind_some HR4.out with ⟨p, hp, rfl⟩ | ⟨b, ts8, hp, hrs⟩
  · refine (ih _ _ _ HC7.out hp).mono ?_
    rintro e w' ⟨rfl, hk⟩
    exact ⟨rfl, perr (HK7.out.trans hk (fun m hm => Or.inl hm))⟩
  refine (ih _ _ _ HC7.out hp).mono ?_
  rintro e w8 ⟨tyb, bbb, rfl, hv, hC, hk⟩
  have HC8 := Lib.hid hC
  have HK8 := Lib.hid (HK7.out.trans hk (fun m hm => Or.inl hm))
  have HR5 := Lib.hid hrs
  have hsz8 : w7.heap.size ≤ w8.heap.size := hk.size
  have HVc := Lib.hid (HVc.out.move hk (by omega) (by simp <;> omega) (Nat.le_refl _) (Nat.le_refl _))
  have HVa := Lib.hid (HVa.out.move hk (by omega) (by simp <;> omega) (Nat.le_refl _) (Nat.le_refl _))
  have HBx := Lib.hid (hk.some HBx.out (by simp <;> omega))
  have HVb := Lib.hid (show ExprAt w8 w7.heap.size w8.heap.size b [] [] (ifp tyb bbb) from hv)
  clear hC hk hv hp hrs
  clear c0
  have c0 : w8.cell? ⟨r, 0, none⟩ = some (.pointer (some ⟨t, 0, none⟩)) := cell_of_block HC8.out.ptr 0
  have cs : w8.cell? ⟨w2.heap.size, 3, none⟩ = some .nilIface := cell_of_block HBx.out 3
  have fs : w8.frozen? ⟨w2.heap.size, 3, none⟩ = false := free_of_block HBx.out 3
  go_wp2_with fail
  have hk : Keeps [w2.heap.size] w8 (w8.setCell ⟨w2.heap.size, 3, none⟩ (ifp tyb bbb)) := (Keeps.refl [w2.heap.size] w8).setCell (Or.inl (by simp)) _
  have HC9 := Lib.hid (HC8.out.keep hk (by simp <;> omega) (by simp <;> omega))
  have HK9 := Lib.hid (HK8.out.trans hk (fun m hm => Or.inr (by simp at hm <;> omega)))
  have hsz9 : w8.heap.size ≤ (w8.setCell ⟨w2.heap.size, 3, none⟩ (ifp tyb bbb)).heap.size := hk.size
  have hse9 : (w8.setCell ⟨w2.heap.size, 3, none⟩ (ifp tyb bbb)).heap.size = w8.heap.size := by simp
  have HVc := Lib.hid (HVc.out.move hk (by omega) (by simp <;> omega) (Nat.le_refl _) (Nat.le_refl _))
  have HVa := Lib.hid (HVa.out.move hk (by omega) (by simp <;> omega) (Nat.le_refl _) (Nat.le_refl _))
  have HVb := Lib.hid (HVb.out.move hk (by omega) (by simp <;> omega) (Nat.le_refl _) (Nat.le_refl _))
  have HBx := Lib.hid (block_setCell HBx.out 3 (ifp tyb bbb))
  clear hk cs fs
  obtain rfl : res = .ok ((.cond (headPos ts) c a b), ts8) := by have := HR5.out; simpa using this.symm
  go_wp2
  go_ret
  refine ⟨_, _, rfl, ⟨rfl, rfl, w2.heap.size, _, _, _, ?_, ?_, rfl, HBx.out, ExprAt.widen (by first | omega | (simp; omega)) (by first | omega | (simp; omega)) _ _ _ _ HVc.out, ExprAt.widen (by first | omega | (simp; omega)) (by first | omega | (simp; omega)) _ _ _ _ HVa.out, ExprAt.widen (by first | omega | (simp; omega)) (by first | omega | (simp; omega)) _ _ _ _ HVb.out⟩, HC9.out, HK9.out⟩
  · first | omega | (simp; omega)
  · first | omega | (simp; omega)
end Go.Proofs.YtpbplpnifjbkoabGreatDoor

namespace Go.Proofs.YtpbplpnifjbkoabGreatDoor
open Go.RowKit

set_option maxRecDepth 100000 in
set_option maxHeartbeats 4000000 in
theorem expr_let (s : ByteArray) (r t n : Nat) (ih : ExpIH s r t n) (ts : List Tok) (w0 : World) (res : Except Nat (Exp × List Tok)) (hC0 : PC s r t ts w0) (h1 : headKind ts = .kLet) (h2 : headKind (adv ts) ≠ .kRec)
    (hres : pExp (n + 1) ts = some res) : Calls Tryz.prog 87 #[.pointer (some ⟨r, 0, none⟩)] w0 (PPost s r t w0 id res) := by
  unfold pExp at hres
  simp only [h1, h2, if_true, reduceCtorEq, if_false] at hres
  obtain ⟨hd, hat, hn, hts⟩ := hC0.rd.ex
  have hpos := (headOf hts).2.2
  have hkd := (headOf hts).1
  have c0 : w0.cell? ⟨r, 0, none⟩ = some (.pointer (some ⟨t, 0, none⟩)) := cell_of_block hC0.ptr 0
  have c4 : w0.cell? ⟨t, 4, none⟩ = some (.int .i64 (headPos ts)) := by rw [hpos]; exact cell_of_block hat 4
  have c2 : w0.cell? ⟨t, 2, none⟩ = some (.string (bs (kstr (headKind ts)))) := by rw [hkd]; exact cell_of_block hat 2
  clear hat hn hts hpos hkd
  have ht0 := hC0.lt
  have hr0 := hC0.rlt
  have hne : r ≠ t := hC0.ne
  have HC0 := Lib.hid hC0
  have HK0 := Lib.hid (Keeps.refl [t] w0)
  have HR0 := Lib.hid hres
  have HNE := Lib.hid hne
  clear hC0 hres hne
  go_enter Tryz.func87, Tryz.ntmps87
  go_wp2_with fail
  refine (take_no HC0.out.rd .kFun _ rfl (by rw [h1]; decide)).mono ?_
  rintro e w' ⟨rfl, rfl⟩
  go_wp2_with fail
  refine (take_no HC0.out.rd .kIf _ rfl (by rw [h1]; decide)).mono ?_
  rintro e w' ⟨rfl, rfl⟩
  go_wp2_with fail
  refine (take_yes kwExpFn HC0.out.rd .kLet _ rfl h1 (by decide) (by decide)).mono ?_
  rintro e w1 ⟨rfl, hr, hk⟩
  have HC1 := Lib.hid (HC0.out.of_rd hk hr)
  have HK1 := Lib.hid (HK0.out.trans hk (fun m hm => Or.inl hm))
  have hsz1 : w0.heap.size ≤ w1.heap.size := hk.size
  clear hr hk
  clear c0
  have c0 : w1.cell? ⟨r, 0, none⟩ = some (.pointer (some ⟨t, 0, none⟩)) := cell_of_block HC1.out.ptr 0
  go_wp2_with fail
  refine (take_no HC1.out.rd .kRec _ rfl h2).mono ?_
  rintro e w' ⟨rfl, rfl⟩
  go_wp2_with fail
  rcases want_cases HR0.out with ⟨hne, rfl⟩ | ⟨heq, hrs⟩
  · refine (want_no HC1.out.rd .name _ rfl hne).mono ?_
    rintro e w' ⟨rfl, rfl⟩
    exact ⟨rfl, perr HK1.out⟩
  refine (want_yes kwExpFn HC1.out.rd .name _ rfl heq).mono ?_
  rintro e w2 ⟨rfl, hr, hk⟩
  have HC2 := Lib.hid (HC1.out.of_rd hk (hr (by decide) (by decide)))
  have HK2 := Lib.hid (HK1.out.trans hk (fun m hm => Or.inl hm))
  have HR1 := Lib.hid hrs
  have hsz2 : w1.heap.size ≤ w2.heap.size := hk.size
  clear hr hk hrs heq
  clear c0
  have c0 : w2.cell? ⟨r, 0, none⟩ = some (.pointer (some ⟨t, 0, none⟩)) := cell_of_block HC2.out.ptr 0
  go_wp2_with fail
  rcases want_cases HR1.out with ⟨hne, rfl⟩ | ⟨heq, hrs⟩
  · refine (want_no HC2.out.rd .eqs _ rfl hne).mono ?_
    rintro e w' ⟨rfl, rfl⟩
    exact ⟨rfl, perr HK2.out⟩
  refine (want_yes kwExpFn HC2.out.rd .eqs _ rfl heq).mono ?_
  rintro e w3 ⟨rfl, hr, hk⟩
  have HC3 := Lib.hid (HC2.out.of_rd hk (hr (by decide) (by decide)))
  have HK3 := Lib.hid (HK2.out.trans hk (fun m hm => Or.inl hm))
  have HR2 := Lib.hid hrs
  have hsz3 : w2.heap.size ≤ w3.heap.size := hk.size
  clear hr hk hrs heq
  clear c0
  have c0 : w3.cell? ⟨r, 0, none⟩ = some (.pointer (some ⟨t, 0, none⟩)) := cell_of_block HC3.out.ptr 0
  go_wp2_with fail
  rcases bind_some HR2.out with ⟨p, hp, rfl⟩ | ⟨a, ts4, hp, hrs⟩
  · refine (ih _ _ _ HC3.out hp).mono ?_
    rintro e w' ⟨rfl, hk⟩
    exact ⟨rfl, perr (HK3.out.trans hk (fun m hm => Or.inl hm))⟩
  refine (ih _ _ _ HC3.out hp).mono ?_
  rintro e w4 ⟨tya, bba, rfl, hv, hC, hk⟩
  have HC4 := Lib.hid hC
  have HK4 := Lib.hid (HK3.out.trans hk (fun m hm => Or.inl hm))
  have HR3 := Lib.hid hrs
  have hsz4 : w3.heap.size ≤ w4.heap.size := hk.size
  have HVa := Lib.hid (show ExprAt w4 w3.heap.size w4.heap.size a [] [] (ifp tya bba) from hv)
  clear hC hk hv hp hrs
  clear c0
  have c0 : w4.cell? ⟨r, 0, none⟩ = some (.pointer (some ⟨t, 0, none⟩)) := cell_of_block HC4.out.ptr 0
  have hk : Keeps [] w4 (w4.alloc (.cells #[.int .i64 (headPos ts), .string (bs (headText (adv ts))), ifp tya bba, .nilIface] 217)) := (Keeps.refl [] w4).alloc (.cells #[.int .i64 (headPos ts), .string (bs (headText (adv ts))), ifp tya bba, .nilIface] 217)
  have HC5 := Lib.hid (HC4.out.keep hk (by simp) (by simp))
  have HK5 := Lib.hid (HK4.out.trans hk (by simp))
  have hal5 : (w4.alloc (.cells #[.int .i64 (headPos ts), .string (bs (headText (adv ts))), ifp tya bba, .nilIface] 217)).heap.size = w4.heap.size + 1 := by simp
  have hal5' : w4.heap.size < (w4.alloc (.cells #[.int .i64 (headPos ts), .string (bs (headText (adv ts))), ifp tya bba, .nilIface] 217)).heap.size := by rw [hal5]; exact Nat.lt_succ_self _
  have hsz5 : w4.heap.size ≤ (w4.alloc (.cells #[.int .i64 (headPos ts), .string (bs (headText (adv ts))), ifp tya bba, .nilIface] 217)).heap.size := hk.size
  have HVa := Lib.hid (HVa.out.move hk (by omega) (by simp <;> omega) (Nat.le_refl _) (Nat.le_refl _))
  have HBx := Lib.hid (block_alloc w4 (.cells #[.int .i64 (headPos ts), .string (bs (headText (adv ts))), ifp tya bba, .nilIface] 217))
  clear hk
  have hrl : r < w4.heap.size := by omega
  go_wp2_with fail
  rcases want_cases HR3.out with ⟨hne, rfl⟩ | ⟨heq, hrs⟩
  · refine (want_no HC5.out.rd .kIn _ rfl hne).mono ?_
    rintro e w' ⟨rfl, rfl⟩
    exact ⟨rfl, perr HK5.out⟩
  refine (want_yes kwExpFn HC5.out.rd .kIn _ rfl heq).mono ?_
  rintro e w6 ⟨rfl, hr, hk⟩
  have HC6 := Lib.hid (HC5.out.of_rd hk (hr (by decide) (by decide)))
  have HK6 := Lib.hid (HK5.out.trans hk (fun m hm => Or.inl hm))
  have HR4 := Lib.hid hrs
  have hsz6 : (w4.alloc (.cells #[.int .i64 (headPos ts), .string (bs (headText (adv ts))), ifp tya bba, .nilIface] 217)).heap.size ≤ w6.heap.size := hk.size
  have HVa := Lib.hid (HVa.out.move hk (by omega) (by simp <;> omega) (Nat.le_refl _) (Nat.le_refl _))
  have HBx := Lib.hid (hk.some HBx.out (by simp <;> omega))
  clear hr hk hrs heq
  clear c0
  have c0 : w6.cell? ⟨r, 0, none⟩ = some (.pointer (some ⟨t, 0, none⟩)) := cell_of_block HC6.out.ptr 0
  go_wp2_with fail
  rcases bind_some HR4.out with ⟨p, hp, rfl⟩ | ⟨b, ts7, hp, hrs⟩
  · refine (ih _ _ _ HC6.out hp).mono ?_
    rintro e w' ⟨rfl, hk⟩
    exact ⟨rfl, perr (HK6.out.trans hk (fun m hm => Or.inl hm))⟩
  refine (ih _ _ _ HC6.out hp).mono ?_
  rintro e w7 ⟨tyb, bbb, rfl, hv, hC, hk⟩
  have HC7 := Lib.hid hC
  have HK7 := Lib.hid (HK6.out.trans hk (fun m hm => Or.inl hm))
  have HR5 := Lib.hid hrs
  have hsz7 : w6.heap.size ≤ w7.heap.size := hk.size
  have HVa := Lib.hid (HVa.out.move hk (by omega) (by simp <;> omega) (Nat.le_refl _) (Nat.le_refl _))
  have HBx := Lib.hid (hk.some HBx.out (by simp <;> omega))
  have HVb := Lib.hid (show ExprAt w7 w6.heap.size w7.heap.size b [] [] (ifp tyb bbb) from hv)
  clear hC hk hv hp hrs
  clear c0
  have c0 : w7.cell? ⟨r, 0, none⟩ = some (.pointer (some ⟨t, 0, none⟩)) := cell_of_block HC7.out.ptr 0
  have cs : w7.cell? ⟨w4.heap.size, 3, none⟩ = some .nilIface := cell_of_block HBx.out 3
  have fs : w7.frozen? ⟨w4.heap.size, 3, none⟩ = false := free_of_block HBx.out 3
  go_wp2_with fail
  have hk : Keeps [w4.heap.size] w7 (w7.setCell ⟨w4.heap.size, 3, none⟩ (ifp tyb bbb)) := (Keeps.refl [w4.heap.size] w7).setCell (Or.inl (by simp)) _
  have HC8 := Lib.hid (HC7.out.keep hk (by simp <;> omega) (by simp <;> omega))
  have HK8 := Lib.hid (HK7.out.trans hk (fun m hm => Or.inr (by simp at hm <;> omega)))
  have hsz8 : w7.heap.size ≤ (w7.setCell ⟨w4.heap.size, 3, none⟩ (ifp tyb bbb)).heap.size := hk.size
  have hse8 : (w7.setCell ⟨w4.heap.size, 3, none⟩ (ifp tyb bbb)).heap.size = w7.heap.size := by simp
  have HVa := Lib.hid (HVa.out.move hk (by omega) (by simp <;> omega) (Nat.le_refl _) (Nat.le_refl _))
  have HVb := Lib.hid (HVb.out.move hk (by omega) (by simp <;> omega) (Nat.le_refl _) (Nat.le_refl _))
  have HBx := Lib.hid (block_setCell HBx.out 3 (ifp tyb bbb))
  clear hk cs fs
  obtain rfl : res = .ok ((.letin (headPos ts) (headText (adv ts)) a b), ts7) := by have := HR5.out; simpa using this.symm
  go_wp2
  go_ret
  refine ⟨_, _, rfl, ⟨rfl, rfl, w4.heap.size, _, _, ?_, ?_, rfl, HBx.out, ExprAt.widen (by first | omega | (simp; omega)) (by first | omega | (simp; omega)) _ _ _ _ HVa.out, ExprAt.widen (by first | omega | (simp; omega)) (by first | omega | (simp; omega)) _ _ _ _ HVb.out⟩, HC8.out, HK8.out⟩
  · first | omega | (simp; omega)
  · first | omega | (simp; omega)
end Go.Proofs.YtpbplpnifjbkoabGreatDoor

namespace Go.Proofs.YtpbplpnifjbkoabGreatDoor
open Go.RowKit

set_option maxRecDepth 100000 in
set_option maxHeartbeats 4000000 in
theorem expr_rec (s : ByteArray) (r t n : Nat) (ihR : ∀ l ts p w res, PC s r t ts w → l = [] → pRec n l ts = some res → Calls Tryz.prog 130 #[.pointer (some ⟨r, 0, none⟩), .int .i64 (p : Nat)] w (PPost s r t w (Exp.recr p) res)) (ts : List Tok) (w0 : World) (res : Except Nat (Exp × List Tok)) (hC0 : PC s r t ts w0) (h1 : headKind ts = .kLet) (h2 : headKind (adv ts) = .kRec)
    (hres : pExp (n + 1) ts = some res) : Calls Tryz.prog 87 #[.pointer (some ⟨r, 0, none⟩)] w0 (PPost s r t w0 id res) := by
  unfold pExp at hres
  simp only [h1, h2, if_true, reduceCtorEq, if_false] at hres
  obtain ⟨hd, hat, hn, hts⟩ := hC0.rd.ex
  have hpos := (headOf hts).2.2
  have hkd := (headOf hts).1
  have c0 : w0.cell? ⟨r, 0, none⟩ = some (.pointer (some ⟨t, 0, none⟩)) := cell_of_block hC0.ptr 0
  have c4 : w0.cell? ⟨t, 4, none⟩ = some (.int .i64 (headPos ts)) := by rw [hpos]; exact cell_of_block hat 4
  have c2 : w0.cell? ⟨t, 2, none⟩ = some (.string (bs (kstr (headKind ts)))) := by rw [hkd]; exact cell_of_block hat 2
  clear hat hn hts hpos hkd
  have ht0 := hC0.lt
  have hr0 := hC0.rlt
  have hne : r ≠ t := hC0.ne
  have HC0 := Lib.hid hC0
  have HK0 := Lib.hid (Keeps.refl [t] w0)
  have HR0 := Lib.hid hres
  have HNE := Lib.hid hne
  clear hC0 hres hne
  go_enter Tryz.func87, Tryz.ntmps87
  go_wp2_with fail
  refine (take_no HC0.out.rd .kFun _ rfl (by rw [h1]; decide)).mono ?_
  rintro e w' ⟨rfl, rfl⟩
  go_wp2_with fail
  refine (take_no HC0.out.rd .kIf _ rfl (by rw [h1]; decide)).mono ?_
  rintro e w' ⟨rfl, rfl⟩
  go_wp2_with fail
  refine (take_yes kwExpFn HC0.out.rd .kLet _ rfl h1 (by decide) (by decide)).mono ?_
  rintro e w1 ⟨rfl, hr, hk⟩
  have HC1 := Lib.hid (HC0.out.of_rd hk hr)
  have HK1 := Lib.hid (HK0.out.trans hk (fun m hm => Or.inl hm))
  have hsz1 : w0.heap.size ≤ w1.heap.size := hk.size
  clear hr hk
  clear c0
  have c0 : w1.cell? ⟨r, 0, none⟩ = some (.pointer (some ⟨t, 0, none⟩)) := cell_of_block HC1.out.ptr 0
  go_wp2_with fail
  refine (take_yes kwExpFn HC1.out.rd .kRec _ rfl h2 (by decide) (by decide)).mono ?_
  rintro e w2 ⟨rfl, hr, hk⟩
  have HC2 := Lib.hid (HC1.out.of_rd hk hr)
  have HK2 := Lib.hid (HK1.out.trans hk (fun m hm => Or.inl hm))
  have hsz2 : w1.heap.size ≤ w2.heap.size := hk.size
  clear hr hk
  clear c0
  have c0 : w2.cell? ⟨r, 0, none⟩ = some (.pointer (some ⟨t, 0, none⟩)) := cell_of_block HC2.out.ptr 0
  go_wp2_with fail
  rcases bind_some HR0.out with ⟨p, hp, rfl⟩ | ⟨g, ts3, hp, hrs⟩
  · refine (ihR _ _ _ _ _ HC2.out rfl hp).mono ?_
    rintro e w' ⟨rfl, hk⟩
    exact ⟨rfl, perr (HK2.out.trans hk (fun m hm => Or.inl hm))⟩
  refine (ihR _ _ _ _ _ HC2.out rfl hp).mono ?_
  rintro e w3 ⟨ty, bb, rfl, hv, hC, hk⟩
  obtain rfl : res = .ok (.recr (headPos ts) g, ts3) := by simpa using hrs.symm
  have HX := Lib.hid (show PPost s r t w0 id (.ok (.recr (headPos ts) g, ts3)) (.returned (ifp ty bb)) w3 from ⟨ty, bb, rfl, ExprAt.widen (by omega) (Nat.le_refl _) _ _ _ _ hv, hC, HK2.out.trans hk (fun m hm => Or.inl hm)⟩)
  clear hv hC hk hp hrs
  go_wp2
  go_ret
  exact HX.out
end Go.Proofs.YtpbplpnifjbkoabGreatDoor

namespace Go.Proofs.YtpbplpnifjbkoabGreatDoor
open Go.RowKit

set_option maxRecDepth 100000 in
set_option maxHeartbeats 4000000 in
theorem atom_name (s : ByteArray) (r t n : Nat)  (ts : List Tok) (w0 : World) (res : Except Nat (Exp × List Tok)) (hC0 : PC s r t ts w0) (h1 : headKind ts = .name)
    (hres : pAtom (n + 1) ts = some res) : Calls Tryz.prog 131 #[.pointer (some ⟨r, 0, none⟩)] w0 (PPost s r t w0 id res) := by
  unfold pAtom at hres
  simp only [h1, if_true, reduceCtorEq, if_false] at hres
  have q1 : ((bs (kstr (headKind ts))).toList == [97, 32, 110, 97, 109, 101]) = true := by rw [h1]; exact kq .name .name
  have H1 := Lib.hid h1
  clear h1
  obtain ⟨hd, hat, hn, hts⟩ := hC0.rd.ex
  have hpos := (headOf hts).2.2
  have hkd := (headOf hts).1
  have c0 : w0.cell? ⟨r, 0, none⟩ = some (.pointer (some ⟨t, 0, none⟩)) := cell_of_block hC0.ptr 0
  have c4 : w0.cell? ⟨t, 4, none⟩ = some (.int .i64 (headPos ts)) := by rw [hpos]; exact cell_of_block hat 4
  have c2 : w0.cell? ⟨t, 2, none⟩ = some (.string (bs (kstr (headKind ts)))) := by rw [hkd]; exact cell_of_block hat 2
  clear hat hn hts hpos hkd
  have ht0 := hC0.lt
  have hr0 := hC0.rlt
  have hne : r ≠ t := hC0.ne
  have HC0 := Lib.hid hC0
  have HK0 := Lib.hid (Keeps.refl [t] w0)
  have HR0 := Lib.hid hres
  have HNE := Lib.hid hne
  clear hC0 hres hne
  go_enter Tryz.func131, Tryz.ntmps131
  go_wp2_with fail
  refine (want_yes kwExpFn HC0.out.rd .name _ rfl H1.out).mono ?_
  rintro e w1 ⟨rfl, hr, hk⟩
  have HC1 := Lib.hid (HC0.out.of_rd hk (hr (by decide) (by decide)))
  have HK1 := Lib.hid hk
  have hsz1 : w0.heap.size ≤ w1.heap.size := hk.size
  clear hr hk c0 c2 c4 q1
  obtain rfl : res = .ok (.name (headPos ts) (headText ts), adv ts) := by have := HR0.out; simpa using this.symm
  go_wp2
  go_ret
  have hk := (Keeps.refl [] w1).alloc (.cells #[.int .i64 (headPos ts), .string (bs (headText ts))] 210)
  refine ⟨_, _, rfl, ⟨rfl, rfl, w1.heap.size, ?_, ?_, rfl, block_alloc _ _⟩, HC1.out.keep hk (by simp) (by simp), HK1.out.trans hk (by simp)⟩
  · omega
  · simp
end Go.Proofs.YtpbplpnifjbkoabGreatDoor

namespace Go.Proofs.YtpbplpnifjbkoabGreatDoor
open Go.RowKit

set_option maxRecDepth 100000 in
set_option maxHeartbeats 4000000 in
theorem atom_num (s : ByteArray) (r t n : Nat)  (ts : List Tok) (w0 : World) (res : Except Nat (Exp × List Tok)) (hC0 : PC s r t ts w0) (h1 : headKind ts = .num)
    (hres : pAtom (n + 1) ts = some res) : Calls Tryz.prog 131 #[.pointer (some ⟨r, 0, none⟩)] w0 (PPost s r t w0 id res) := by
  unfold pAtom at hres
  simp only [h1, if_true, reduceCtorEq, if_false] at hres
  have q1 : ((bs (kstr (headKind ts))).toList == [97, 32, 110, 97, 109, 101]) = false := by rw [h1]; exact kq .num .name
  have q2 : ((bs (kstr (headKind ts))).toList == [97, 32, 110, 117, 109, 98, 101, 114]) = true := by rw [h1]; exact kq .num .num
  have H1 := Lib.hid h1
  clear h1
  obtain ⟨hd, hat, hn, hts⟩ := hC0.rd.ex
  have hpos := (headOf hts).2.2
  have hkd := (headOf hts).1
  have c0 : w0.cell? ⟨r, 0, none⟩ = some (.pointer (some ⟨t, 0, none⟩)) := cell_of_block hC0.ptr 0
  have c4 : w0.cell? ⟨t, 4, none⟩ = some (.int .i64 (headPos ts)) := by rw [hpos]; exact cell_of_block hat 4
  have c2 : w0.cell? ⟨t, 2, none⟩ = some (.string (bs (kstr (headKind ts)))) := by rw [hkd]; exact cell_of_block hat 2
  clear hat hn hts hpos hkd
  have ht0 := hC0.lt
  have hr0 := hC0.rlt
  have hne : r ≠ t := hC0.ne
  have HC0 := Lib.hid hC0
  have HK0 := Lib.hid (Keeps.refl [t] w0)
  have HR0 := Lib.hid hres
  have HNE := Lib.hid hne
  clear hC0 hres hne
  go_enter Tryz.func131, Tryz.ntmps131
  go_wp2_with fail
  refine (want_yes kwExpFn HC0.out.rd .num _ rfl H1.out).mono ?_
  rintro e w1 ⟨rfl, hr, hk⟩
  have HC1 := Lib.hid (HC0.out.of_rd hk (hr (by decide) (by decide)))
  have HK1 := Lib.hid hk
  have hsz1 : w0.heap.size ≤ w1.heap.size := hk.size
  clear hr hk c0 c2 c4 q1 q2
  obtain rfl : res = .ok (.num (headPos ts) (headText ts), adv ts) := by have := HR0.out; simpa using this.symm
  go_wp2
  go_ret
  have hk := (Keeps.refl [] w1).alloc (.cells #[.int .i64 (headPos ts), .string (bs (headText ts))] 253)
  refine ⟨_, _, rfl, ⟨rfl, rfl, w1.heap.size, ?_, ?_, rfl, block_alloc _ _⟩, HC1.out.keep hk (by simp) (by simp), HK1.out.trans hk (by simp)⟩
  · omega
  · simp
end Go.Proofs.YtpbplpnifjbkoabGreatDoor

namespace Go.Proofs.YtpbplpnifjbkoabGreatDoor
open Go.RowKit

set_option maxRecDepth 100000 in
set_option maxHeartbeats 4000000 in
theorem atom_par (s : ByteArray) (r t n : Nat) (ih : ExpIH s r t n) (ts : List Tok) (w0 : World) (res : Except Nat (Exp × List Tok)) (hC0 : PC s r t ts w0) (h1 : headKind ts ≠ .name) (h2 : headKind ts ≠ .num)
    (hres : pAtom (n + 1) ts = some res) : Calls Tryz.prog 131 #[.pointer (some ⟨r, 0, none⟩)] w0 (PPost s r t w0 id res) := by
  unfold pAtom at hres
  simp only [h1, h2, if_false] at hres
  have hp0 : ∃ q, q = headPos ts := ⟨_, rfl⟩
  obtain ⟨q, hq⟩ := hp0
  rw [← hq] at hres
  have q1 : ((bs (kstr (headKind ts))).toList == [97, 32, 110, 97, 109, 101]) = false := (kq _ .name).trans (by simpa using h1)
  have q2 : ((bs (kstr (headKind ts))).toList == [97, 32, 110, 117, 109, 98, 101, 114]) = false := (kq _ .num).trans (by simpa using h2)
  have H1 := Lib.hid h1
  have H2 := Lib.hid h2
  have HQ := Lib.hid hq
  clear h1 h2 hq
  obtain ⟨hd, hat, hn, hts⟩ := hC0.rd.ex
  have hpos := (headOf hts).2.2
  have hkd := (headOf hts).1
  have c0 : w0.cell? ⟨r, 0, none⟩ = some (.pointer (some ⟨t, 0, none⟩)) := cell_of_block hC0.ptr 0
  have c4 : w0.cell? ⟨t, 4, none⟩ = some (.int .i64 (headPos ts)) := by rw [hpos]; exact cell_of_block hat 4
  have c2 : w0.cell? ⟨t, 2, none⟩ = some (.string (bs (kstr (headKind ts)))) := by rw [hkd]; exact cell_of_block hat 2
  clear hat hn hts hpos hkd
  have ht0 := hC0.lt
  have hr0 := hC0.rlt
  have hne : r ≠ t := hC0.ne
  have HC0 := Lib.hid hC0
  have HK0 := Lib.hid (Keeps.refl [t] w0)
  have HR0 := Lib.hid hres
  have HNE := Lib.hid hne
  clear hC0 hres hne
  go_enter Tryz.func131, Tryz.ntmps131
  go_wp2_with fail
  rcases want_cases HR0.out with ⟨hne, rfl⟩ | ⟨heq, hrs⟩
  · refine (want_no HC0.out.rd .lpar _ rfl hne).mono ?_
    rintro e w' ⟨rfl, rfl⟩
    exact ⟨rfl, perr HK0.out⟩
  refine (want_yes kwExpFn HC0.out.rd .lpar _ rfl heq).mono ?_
  rintro e w1 ⟨rfl, hr, hk⟩
  have HC1 := Lib.hid (HC0.out.of_rd hk (hr (by decide) (by decide)))
  have HK1 := Lib.hid (HK0.out.trans hk (fun m hm => Or.inl hm))
  have HR1 := Lib.hid hrs
  have hsz1 : w0.heap.size ≤ w1.heap.size := hk.size
  clear hr hk hrs heq
  clear c0
  have c0 : w1.cell? ⟨r, 0, none⟩ = some (.pointer (some ⟨t, 0, none⟩)) := cell_of_block HC1.out.ptr 0
  clear q1 q2 c2
  go_wp2_with fail
  rcases bind_some HR1.out with ⟨p, hp, rfl⟩ | ⟨a, ts2, hp, hrs⟩
  · refine (ih _ _ _ HC1.out hp).mono ?_
    rintro e w' ⟨rfl, hk⟩
    exact ⟨rfl, perr (HK1.out.trans hk (fun m hm => Or.inl hm))⟩
  refine (ih _ _ _ HC1.out hp).mono ?_
  rintro e w2 ⟨tya, bba, rfl, hv, hC, hk⟩
  have HC2 := Lib.hid hC
  have HK2 := Lib.hid (HK1.out.trans hk (fun m hm => Or.inl hm))
  have HR2 := Lib.hid hrs
  have hsz2 : w1.heap.size ≤ w2.heap.size := hk.size
  have HVa := Lib.hid (show ExprAt w2 w1.heap.size w2.heap.size a [] [] (ifp tya bba) from hv)
  clear hC hk hv hp hrs
  clear c0
  have c0 : w2.cell? ⟨r, 0, none⟩ = some (.pointer (some ⟨t, 0, none⟩)) := cell_of_block HC2.out.ptr 0
  by_cases hcm : headKind ts2 = .comma
  · have hrs2 := HR2.out
    simp only [hcm, if_true] at hrs2
    have HR2 := Lib.hid hrs2
    clear hrs2
    go_wp2_with fail
    refine (take_yes kwExpFn HC2.out.rd .comma _ rfl hcm (by decide) (by decide)).mono ?_
    rintro e w3 ⟨rfl, hr, hk⟩
    have HC3 := Lib.hid (HC2.out.of_rd hk hr)
    have HK3 := Lib.hid (HK2.out.trans hk (fun m hm => Or.inl hm))
    have hsz3 : w2.heap.size ≤ w3.heap.size := hk.size
    have HVa := Lib.hid (HVa.out.move hk (by omega) (by simp <;> omega) (Nat.le_refl _) (Nat.le_refl _))
    clear hr hk
    clear c0
    have c0 : w3.cell? ⟨r, 0, none⟩ = some (.pointer (some ⟨t, 0, none⟩)) := cell_of_block HC3.out.ptr 0
    go_wp2_with fail
    rcases bind_some HR2.out with ⟨p, hp, rfl⟩ | ⟨b, ts4, hp, hrs⟩
    · refine (ih _ _ _ HC3.out hp).mono ?_
      rintro e w' ⟨rfl, hk⟩
      exact ⟨rfl, perr (HK3.out.trans hk (fun m hm => Or.inl hm))⟩
    refine (ih _ _ _ HC3.out hp).mono ?_
    rintro e w4 ⟨tyb, bbb, rfl, hv, hC, hk⟩
    have HC4 := Lib.hid hC
    have HK4 := Lib.hid (HK3.out.trans hk (fun m hm => Or.inl hm))
    have HR3 := Lib.hid hrs
    have hsz4 : w3.heap.size ≤ w4.heap.size := hk.size
    have HVa := Lib.hid (HVa.out.move hk (by omega) (by simp <;> omega) (Nat.le_refl _) (Nat.le_refl _))
    have HVb := Lib.hid (show ExprAt w4 w3.heap.size w4.heap.size b [] [] (ifp tyb bbb) from hv)
    clear hC hk hv hp hrs
    clear c0
    have c0 : w4.cell? ⟨r, 0, none⟩ = some (.pointer (some ⟨t, 0, none⟩)) := cell_of_block HC4.out.ptr 0
    have hk : Keeps [] w4 (w4.alloc (.cells #[.int .i64 (headPos ts), ifp tya bba, ifp tyb bbb] 256)) := (Keeps.refl [] w4).alloc (.cells #[.int .i64 (headPos ts), ifp tya bba, ifp tyb bbb] 256)
    have HC5 := Lib.hid (HC4.out.keep hk (by simp) (by simp))
    have HK5 := Lib.hid (HK4.out.trans hk (by simp))
    have hal5 : (w4.alloc (.cells #[.int .i64 (headPos ts), ifp tya bba, ifp tyb bbb] 256)).heap.size = w4.heap.size + 1 := by simp
    have hal5' : w4.heap.size < (w4.alloc (.cells #[.int .i64 (headPos ts), ifp tya bba, ifp tyb bbb] 256)).heap.size := by rw [hal5]; exact Nat.lt_succ_self _
    have hsz5 : w4.heap.size ≤ (w4.alloc (.cells #[.int .i64 (headPos ts), ifp tya bba, ifp tyb bbb] 256)).heap.size := hk.size
    have HVa := Lib.hid (HVa.out.move hk (by omega) (by simp <;> omega) (Nat.le_refl _) (Nat.le_refl _))
    have HVb := Lib.hid (HVb.out.move hk (by omega) (by simp <;> omega) (Nat.le_refl _) (Nat.le_refl _))
    have HBx := Lib.hid (block_alloc w4 (.cells #[.int .i64 (headPos ts), ifp tya bba, ifp tyb bbb] 256))
    clear hk
    have hrl : r < w4.heap.size := by omega
    go_wp2_with fail
    rcases want_cases HR3.out with ⟨hne, rfl⟩ | ⟨heq, hrs⟩
    · refine (want_no HC5.out.rd .rpar _ rfl hne).mono ?_
      rintro e w' ⟨rfl, rfl⟩
      exact ⟨rfl, perr HK5.out⟩
    refine (want_yes kwExpFn HC5.out.rd .rpar _ rfl heq).mono ?_
    rintro e w6 ⟨rfl, hr, hk⟩
    have HC6 := Lib.hid (HC5.out.of_rd hk (hr (by decide) (by decide)))
    have HK6 := Lib.hid (HK5.out.trans hk (fun m hm => Or.inl hm))
    have HR4 := Lib.hid hrs
    have hsz6 : (w4.alloc (.cells #[.int .i64 (headPos ts), ifp tya bba, ifp tyb bbb] 256)).heap.size ≤ w6.heap.size := hk.size
    have HVa := Lib.hid (HVa.out.move hk (by omega) (by simp <;> omega) (Nat.le_refl _) (Nat.le_refl _))
    have HVb := Lib.hid (HVb.out.move hk (by omega) (by simp <;> omega) (Nat.le_refl _) (Nat.le_refl _))
    have HBx := Lib.hid (hk.some HBx.out (by simp <;> omega))
    clear hr hk hrs heq
    clear c0
    have c0 : w6.cell? ⟨r, 0, none⟩ = some (.pointer (some ⟨t, 0, none⟩)) := cell_of_block HC6.out.ptr 0
    obtain rfl : res = .ok (.pair q a b, adv ts4) := by have := HR4.out; simpa using this.symm
    go_wp2
    go_ret
    have e := HQ.out
    refine ⟨_, _, rfl, ⟨rfl, rfl, w4.heap.size, _, _, ?_, ?_, rfl, ?_, ExprAt.widen (by first | omega | (simp; omega)) (by first | omega | (simp; omega)) _ _ _ _ HVa.out, ExprAt.widen (by first | omega | (simp; omega)) (by first | omega | (simp; omega)) _ _ _ _ HVb.out⟩, HC6.out, HK6.out⟩
    · first | omega | (simp; omega)
    · first | omega | (simp; omega)
    · rw [e]; exact HBx.out
  · have hrs2 := HR2.out
    simp only [hcm, if_false] at hrs2
    have HR2 := Lib.hid hrs2
    clear hrs2
    go_wp2_with fail
    refine (take_no HC2.out.rd .comma _ rfl hcm).mono ?_
    rintro e w' ⟨rfl, rfl⟩
    go_wp2_with fail
    rcases want_cases HR2.out with ⟨hne, rfl⟩ | ⟨heq, hrs⟩
    · refine (want_no HC2.out.rd .rpar _ rfl hne).mono ?_
      rintro e w' ⟨rfl, rfl⟩
      exact ⟨rfl, perr HK2.out⟩
    refine (want_yes kwExpFn HC2.out.rd .rpar _ rfl heq).mono ?_
    rintro e w3 ⟨rfl, hr, hk⟩
    have HC3 := Lib.hid (HC2.out.of_rd hk (hr (by decide) (by decide)))
    have HK3 := Lib.hid (HK2.out.trans hk (fun m hm => Or.inl hm))
    have HR3 := Lib.hid hrs
    have hsz3 : w2.heap.size ≤ w3.heap.size := hk.size
    have HVa := Lib.hid (HVa.out.move hk (by omega) (by simp <;> omega) (Nat.le_refl _) (Nat.le_refl _))
    clear hr hk hrs heq
    clear c0
    have c0 : w3.cell? ⟨r, 0, none⟩ = some (.pointer (some ⟨t, 0, none⟩)) := cell_of_block HC3.out.ptr 0
    obtain rfl : res = .ok (a, adv ts2) := by have := HR3.out; simpa using this.symm
    go_wp2
    go_ret
    refine ⟨_, _, rfl, ExprAt.widen (by first | omega | (simp; omega)) (by first | omega | (simp; omega)) _ _ _ _ HVa.out, HC3.out, HK3.out⟩
end Go.Proofs.YtpbplpnifjbkoabGreatDoor

namespace Go.Proofs.YtpbplpnifjbkoabGreatDoor
open Go.RowKit

theorem starts_yes {k : Kind} (h : startsAtom k = true) : ((bs (kstr k)).toList == [97, 32, 110, 97, 109, 101]) = true ∨ (((bs (kstr k)).toList == [97, 32, 110, 97, 109, 101]) = false ∧ ((bs (kstr k)).toList == [97, 32, 110, 117, 109, 98, 101, 114]) = true) ∨ (((bs (kstr k)).toList == [97, 32, 110, 97, 109, 101]) = false ∧ ((bs (kstr k)).toList == [97, 32, 110, 117, 109, 98, 101, 114]) = false ∧ ((bs (kstr k)).toList == [40]) = true) := by
  rw [show ((bs (kstr k)).toList == [97, 32, 110, 97, 109, 101]) = (k == .name) from kq k .name, show ((bs (kstr k)).toList == [97, 32, 110, 117, 109, 98, 101, 114]) = (k == .num) from kq k .num, show ((bs (kstr k)).toList == [40]) = (k == .lpar) from kq k .lpar]
  cases k <;> revert h <;> decide
theorem starts_no {k : Kind} (h : ¬ startsAtom k = true) : ((bs (kstr k)).toList == [97, 32, 110, 97, 109, 101]) = false ∧ ((bs (kstr k)).toList == [97, 32, 110, 117, 109, 98, 101, 114]) = false ∧ ((bs (kstr k)).toList == [40]) = false := by
  rw [show ((bs (kstr k)).toList == [97, 32, 110, 97, 109, 101]) = (k == .name) from kq k .name, show ((bs (kstr k)).toList == [97, 32, 110, 117, 109, 98, 101, 114]) = (k == .num) from kq k .num, show ((bs (kstr k)).toList == [40]) = (k == .lpar) from kq k .lpar]
  cases k <;> revert h <;> decide

set_option maxRecDepth 100000 in
set_option maxHeartbeats 4000000 in
theorem expr_apps (s : ByteArray) (r t n : Nat) (ih : ∀ m, m ≤ n → AtomIH s r t m) (ts : List Tok) (w0 : World) (res : Except Nat (Exp × List Tok)) (hC0 : PC s r t ts w0) (h1 : headKind ts ≠ .kFun) (h2 : headKind ts ≠ .kIf) (h3 : headKind ts ≠ .kLet)
    (hres : pExp (n + 1) ts = some res) : Calls Tryz.prog 87 #[.pointer (some ⟨r, 0, none⟩)] w0 (PPost s r t w0 id res) := by
  unfold pExp at hres
  simp only [h1, h2, h3, if_false] at hres
  have HI := Lib.hid ih
  clear ih
  obtain ⟨hd, hat, hn, hts⟩ := hC0.rd.ex
  have hpos := (headOf hts).2.2
  have hkd := (headOf hts).1
  have c0 : w0.cell? ⟨r, 0, none⟩ = some (.pointer (some ⟨t, 0, none⟩)) := cell_of_block hC0.ptr 0
  have c4 : w0.cell? ⟨t, 4, none⟩ = some (.int .i64 (headPos ts)) := by rw [hpos]; exact cell_of_block hat 4
  have c2 : w0.cell? ⟨t, 2, none⟩ = some (.string (bs (kstr (headKind ts)))) := by rw [hkd]; exact cell_of_block hat 2
  clear hat hn hts hpos hkd
  have ht0 := hC0.lt
  have hr0 := hC0.rlt
  have hne : r ≠ t := hC0.ne
  have HC0 := Lib.hid hC0
  have HK0 := Lib.hid (Keeps.refl [t] w0)
  have HR0 := Lib.hid hres
  have HNE := Lib.hid hne
  clear c2
  clear hC0 hres hne
  go_enter Tryz.func87, Tryz.ntmps87
  go_wp2_with fail
  refine (take_no HC0.out.rd .kFun _ rfl h1).mono ?_
  rintro e w' ⟨rfl, rfl⟩
  go_wp2_with fail
  refine (take_no HC0.out.rd .kIf _ rfl h2).mono ?_
  rintro e w' ⟨rfl, rfl⟩
  go_wp2_with fail
  refine (take_no HC0.out.rd .kLet _ rfl h3).mono ?_
  rintro e w' ⟨rfl, rfl⟩
  clear h1 h2 h3
  go_wp2_with fail
  rcases bind_some HR0.out with ⟨p, hp, rfl⟩ | ⟨a, ts1, hp, hrs⟩
  · refine (HI.out n (Nat.le_refl _) _ _ _ HC0.out hp).mono ?_
    rintro e w' ⟨rfl, hk⟩
    exact ⟨rfl, perr hk⟩
  refine (HI.out n (Nat.le_refl _) _ _ _ HC0.out hp).mono ?_
  rintro e w1 ⟨tya, bba, rfl, hv, hC, hk⟩
  have HC1 := Lib.hid hC
  have HK1 := Lib.hid hk
  have HV1 := Lib.hid (show ExprAt w1 w0.heap.size w1.heap.size a [] [] (ifp tya bba) from hv)
  have HR1 := Lib.hid hrs
  clear hv hC hk hrs hp c0 c4 HC0 HK0 HR0 HNE
  go_wp2_with fail
  go_loopg [8] n (fun g v8 wx => ∃ x ts' ty bb, v8 = ifp ty bb ∧ g ≤ n ∧ PC s r t ts' wx ∧ Keeps [t] w0 wx ∧ ExprAt wx w0.heap.size wx.heap.size x [] [] (ifp ty bb) ∧ pApps g (headPos ts) x ts' = some res)
  case atStart => exact ⟨a, ts1, tya, bba, rfl, Nat.le_refl _, HC1.out, HK1.out, HV1.out, HR1.out⟩
  case round =>
    obtain ⟨x, ts', ty, bb, rfl, hg, hC, hk, hv, hres⟩ := hrel
    clear HC1 HK1 HV1 HR1
    obtain ⟨k, rfl⟩ : ∃ k, gk = k + 1 := by
      cases gk with
      | zero => simp [pApps] at hres
      | succ k => exact ⟨k, rfl⟩
    simp only [pApps] at hres
    obtain ⟨c0, c4, c2⟩ := hC.cells
    have HC2 := Lib.hid hC
    have HK2 := Lib.hid hk
    have HV2 := Lib.hid hv
    clear hC hk hv c4
    by_cases hst : startsAtom (headKind ts') = true
    · rw [if_pos hst] at hres
      have HRR := Lib.hid hres
      clear hres
      have h3 := starts_yes hst
      clear hst
      rcases bind_some HRR.out with ⟨p, hp, rfl⟩ | ⟨b, ts3, hp, hrs⟩
      · rcases h3 with q1 | ⟨q1, q2⟩ | ⟨q1, q2, q3⟩
        all_goals
          go_wp2_with fail
          refine (HI.out k (by omega) _ _ _ HC2.out hp).mono ?_
          rintro e w' ⟨rfl, hk⟩
          exact ⟨rfl, perr (HK2.out.trans hk (fun m hm => Or.inl hm))⟩
      · have HRS := Lib.hid hrs
        clear hrs
        rcases h3 with q1 | ⟨q1, q2⟩ | ⟨q1, q2, q3⟩
        all_goals
          go_wp2_with fail
          refine (HI.out k (by omega) _ _ _ HC2.out hp).mono ?_
          rintro e w3 ⟨tyb, bbb, rfl, hv, hC, hk⟩
          have HC3 := Lib.hid hC
          have HK3 := Lib.hid (HK2.out.trans hk (fun m hm => Or.inl hm))
          have hs2 : w0.heap.size ≤ wr.heap.size := HK2.out.size
          have hs3 : wr.heap.size ≤ w3.heap.size := hk.size
          have HV3 := Lib.hid (show ExprAt w3 wr.heap.size w3.heap.size b [] [] (ifp tyb bbb) from hv)
          have HV4 := Lib.hid (HV2.out.move hk (Nat.le_refl _) (by simp; omega) (Nat.le_refl _) (Nat.le_refl _))
          clear hv hC hk hp
          go_wp2_with fail
          go_roundg k
          case measure => omega
          case rel =>
            have hk4 := (Keeps.refl [] w3).alloc (.cells #[.int .i64 (headPos ts), ifp ty bb, ifp tyb bbb] 263)
            refine ⟨.app (headPos ts) x b, ts3, 261, w3.heap.size, rfl, by omega, HC3.out.keep hk4 (by simp) (by simp), HK3.out.trans hk4 (by simp), ?_, HRS.out⟩
            refine ⟨rfl, rfl, w3.heap.size, _, _, by omega, by simp, rfl, block_alloc _ _, ?_, ?_⟩
            · exact HV4.out.move hk4 (by omega) (by simp) (Nat.le_refl _) (by simp; omega)
            · exact HV3.out.move hk4 (by omega) (by simp) (by omega) (by simp)
    · rw [if_neg hst] at hres
      obtain rfl : res = .ok (x, ts') := by simpa using hres.symm
      obtain ⟨q1, q2, q3⟩ := starts_no hst
      clear hst hres
      go_wp2
      go_ret
      exact ⟨_, _, rfl, HV2.out, HC2.out, HK2.out⟩
end Go.Proofs.YtpbplpnifjbkoabGreatDoor

namespace Go.Proofs.YtpbplpnifjbkoabGreatDoor
open Go.RowKit

theorem parse_all (s : ByteArray) (r t : Nat) : ∀ n, n ≤ 65536 → ∀ m, m ≤ n → ExpIH s r t m ∧ AtomIH s r t m := by
  intro n
  induction n with
  | zero =>
    intro _ m hm
    obtain rfl : m = 0 := by omega
    exact ⟨fun ts w res _ h => by simp [pExp] at h, fun ts w res _ h => by simp [pAtom] at h⟩
  | succ n ih =>
    intro hn m hm
    have ih := ih (by omega)
    rcases Nat.lt_or_eq_of_le hm with h | rfl
    · exact ih m (by omega)
    have ie := (ih n (Nat.le_refl _)).1
    constructor
    · intro ts w res hC hres
      by_cases h1 : headKind ts = .kFun
      · exact expr_lam s r t n ie ts w res hC h1 hres
      by_cases h2 : headKind ts = .kIf
      · exact expr_cond s r t n ie ts w res hC h2 hres
      by_cases h3 : headKind ts = .kLet
      · by_cases h4 : headKind (adv ts) = .kRec
        · refine expr_rec s r t n ?_ ts w res hC h3 h4 hres
          intro l ts p w res hC hl hr
          subst hl
          exact rec_any s r t n (by omega) (fun m hm => (ih m hm).1) ts p w res hC hr
        · exact expr_let s r t n ie ts w res hC h3 h4 hres
      · exact expr_apps s r t n (fun m hm => (ih m hm).2) ts w res hC h1 h2 h3 hres
    · intro ts w res hC hres
      by_cases h1 : headKind ts = .name
      · exact atom_name s r t n ts w res hC h1 hres
      by_cases h2 : headKind ts = .num
      · exact atom_num s r t n ts w res hC h2 hres
      · exact atom_par s r t n ie ts w res hC h1 h2 hres

/-- The parser's 'expr', where the plain one has fuel enough. -/
theorem expr_any {s : ByteArray} {r t n : Nat} (hn : n ≤ 65536) {ts : List Tok} {w : World} {res : Except Nat (Exp × List Tok)} (hC : PC s r t ts w) (h : pExp n ts = some res) :
    Calls Tryz.prog 87 #[.pointer (some ⟨r, 0, none⟩)] w (PPost s r t w id res) := (parse_all s r t n hn n (Nat.le_refl _)).1 ts w res hC h
end Go.Proofs.YtpbplpnifjbkoabGreatDoor

/-
  schemeskeep.Path, by contract, out of what infer comes to.
-/
import Derived.Test.YtpbplpnifjbkoaaGreatDoorPw
import Derived.Test.YtpbplpnifjbkoaaGreatDoorTval
import Derived.Deep.RegionLaw
namespace Go.Proofs.YtpbplpnifjbkoaaGreatDoor
open Go.RowKit

theorem tree_take (d : Nat) : ∀ (p : List Bool) (n : Nat), treeP d p n = treeP d (p.take d) n := by
  induction d with
  | zero => intro p n; rfl
  | succ d ih =>
    intro p n
    cases p with
    | nil => rfl
    | cons b r =>
      simp only [treeP, List.take_succ_cons, List.tail_cons, List.head?_cons]
      have e1 := ih r n
      have e2 := ih r (treeP d r n).2.2
      rw [← e1, ← e2]
      rfl
def wrapP (b : Bool) (s : Bytes) : Bytes := (if b = true then [115, 110, 100] else [102, 115, 116]) ++ [32, 40] ++ s ++ [41]
theorem gone_snoc (xs : List Bool) (b : Bool) : ∀ s, goneP (xs ++ [b]) s = wrapP b (goneP xs s) := by
  induction xs with
  | nil => intro s; rfl
  | cons x r ih => intro s; simp only [List.cons_append, goneP, ih]
theorem gone_len (xs : List Bool) : ∀ s, (goneP xs s).length = s.length + 6 * xs.length := by
  induction xs with
  | nil => intro s; simp [goneP]
  | cons x r ih =>
    intro s
    simp only [goneP, ih, List.length_append, List.length_cons, List.length_nil]
    cases x <;> simp <;> omega
theorem mem_paths (p : List Bool) : p ∈ pathsP p.length := by
  induction p with
  | nil => simp [pathsP]
  | cons b r ih =>
    simp only [List.length_cons, pathsP, List.mem_append, List.mem_map]
    cases b with
    | false => exact .inl ⟨r, ih, rfl⟩
    | true => exact .inr ⟨r, ih, rfl⟩

theorem bit_at (p : ByteArray) (k : Nat) (h : k < p.size) : (bitsOf p.data.toList)[k]? = some ((p[k].toNat : Int) % 2 == 1) := by
  have h1 : p.data.toList[k]? = some p[k] := by
    rw [List.getElem?_eq_getElem (by simpa using h), ba_get p k h]
  unfold bitsOf
  rw [List.getElem?_map, h1]
  show some (bitB p[k]) = _
  congr 1
  unfold bitB
  have h3 : (p[k] % 2).toNat = p[k].toNat % 2 := by simp
  by_cases hb : p[k].toNat % 2 = 1
  · have e1 : p[k] % 2 = 1 := by
      apply UInt8.toNat.inj
      rw [h3, hb]
      rfl
    have e2 : (p[k].toNat : Int) % 2 = 1 := by omega
    rw [e1, e2]
    rfl
  · have e1 : p[k] % 2 ≠ 1 := fun e => hb (by rw [← h3, e]; rfl)
    have e2 : (p[k].toNat : Int) % 2 ≠ 1 := by omega
    rw [beq_eq_false_iff_ne.2 e1, beq_eq_false_iff_ne.2 e2]
set_option maxRecDepth 100000 in
set_option maxHeartbeats 4000000 in
theorem path_law {a : Nat → Addr} {B : Nat} (path : ByteArray) (c : Int) (hc : -9223372036854775808 ≤ c ∧ c ≤ 9223372036854775807)
    (hI : ∀ (p : List Bool), p.length < 4 → (goneP p (treeP p.length p 0).1).length ≤ 300 → KInf a B (goneP p (treeP p.length p 0).1) (treeP p.length p 0).2.1 ⟨0, 0, [], 0, 0⟩) (w : World) (hG : Gl a B w) :
    Calls Tryz.prog 10 #[.string path, .int .i64 c] w fun e w' => e = .returned (.bool true) ∧ Keeps [] w w' := by
  have HI := Lib.hid hI
  have HG := Lib.hid hG
  clear hI hG
  go_enter Tryz.func10, Tryz.ntmps10
  go_wp2_with fail
  refine (pick_any c hc 4 (by omega) (by omega) w).mono ?_
  rintro e w1 ⟨rfl, rfl⟩
  have hn := pickK_lt c 4 (by omega)
  generalize pickK c 4 = d at hn ⊢
  go_wp2_with fail
  have hq : (path.extract 0 (min (path.size : Int) 6).toNat).size ≤ 6 := by simp; omega
  generalize path.extract 0 (min (path.size : Int) 6).toNat = q at hq ⊢
  have hk0 : Keeps [] w (((w.alloc (.cells leavesA 9)).alloc (.cells typsA 9)).alloc (.cells #[.int .i64 0] 3)) := (((Keeps.refl [] w).alloc _).alloc _).alloc _
  have z1 : (w.alloc (.cells leavesA 9)).heap.size = w.heap.size + 1 := by simp
  have z2 : ((w.alloc (.cells leavesA 9)).alloc (.cells typsA 9)).heap.size = w.heap.size + 1 + 1 := by simp
  have bl := block_alloc_old (o' := .cells #[.int .i64 0] 3) (block_alloc_old (o' := .cells typsA 9) (block_alloc w (.cells leavesA 9)))
  have bt := block_alloc_old (o' := .cells #[.int .i64 0] 3) (block_alloc (w.alloc (.cells leavesA 9)) (.cells typsA 9))
  have bn := block_alloc ((w.alloc (.cells leavesA 9)).alloc (.cells typsA 9)) (.cells #[.int .i64 0] 3)
  rw [z1] at bt
  rw [z2] at bn
  refine (tree_any (nb := w.heap.size + 1 + 1) (gl := w.heap.size) (gt := w.heap.size + 1) (cl := 5) (ct := 5) (by omega) (by omega) d (by omega) q 0 _ (by omega) (by have : 2 ^ d ≤ 2 ^ 4 := Nat.pow_le_pow_right (by omega) (by omega); omega) bn bl bt).mono ?_
  rintro e w2 ⟨rfl, _, hk2⟩
  have HK2 := Lib.hid (show Keeps [] w w2 from hk0.trans hk2 (by simp; omega))
  have HTL := Lib.hid (tree_len d (bitsOf q.data.toList) 0).1
  clear hk0 hk2 bl bt bn z1 z2
  have h2d : 2 ^ d ≤ 2 ^ 4 := Nat.pow_le_pow_right (by omega) (by omega)
  have hbl : (bitsOf q.data.toList).length = q.size := by simp [bitsOf]
  have HBL := Lib.hid hbl
  go_wp2_with fail
  go_loopg [8, 10] d (fun gg s i wx => ∃ k : Nat, gg = d - k ∧ i = .int .i64 k ∧ k ≤ d ∧ k ≤ q.size ∧ s = .string (bs (goneP ((bitsOf q.data.toList).take k) (treeP d (bitsOf q.data.toList) 0).1)) ∧ Keeps [] w wx)
  case atStart => exact ⟨0, rfl, rfl, by omega, by omega, rfl, HK2.out⟩
  case round =>
    obtain ⟨k, hg, rfl, hkd, hkq, rfl, hk⟩ := hrel
    have HGG := Lib.hid hg
    have HK := Lib.hid hk
    have hgl := gone_len ((bitsOf q.data.toList).take k) (treeP d (bitsOf q.data.toList) 0).1
    have hsz : (bs (goneP ((bitsOf q.data.toList).take k) (treeP d (bitsOf q.data.toList) 0).1)).size ≤ 400 := by
      rw [bs_size, hgl]
      have := HTL.out
      simp only [List.length_take]
      omega
    clear hg hk hgl
    by_cases hlt : k < q.size ∧ k < d
    · obtain ⟨h1, h2⟩ := hlt
      have d1 : decide ((k : Int) < (q.size : Int)) = true := by simpa using h1
      have d2 : decide ((k : Int) < (d : Int)) = true := by simpa using h2
      have s1 : ¬ 9223372036854775807 < 5 + (bs (goneP ((bitsOf q.data.toList).take k) (treeP d (bitsOf q.data.toList) 0).1)).size := by omega
      have s2 : ¬ 9223372036854775807 < 5 + (bs (goneP ((bitsOf q.data.toList).take k) (treeP d (bitsOf q.data.toList) 0).1)).size + 1 := by omega
      by_cases hbit : ((q[k].toNat : Int) % 2 == 1) = true
      · have hget : (bitsOf q.data.toList)[k]? = some true := by rw [← hbit]; exact bit_at q k h1
        go_wp2_with fail
        go_roundg (d - (k + 1))
        case measure => have := HGG.out; omega
        case rel =>
          refine ⟨k + 1, rfl, by go_num, by omega, by omega, ?_, HK.out⟩
          refine congrArg Value.string (ba_ext ?_)
          rw [take_next' hget, gone_snoc]
          simp [ByteArray.data_append, Array.toList_append, bs_data, wrapP]
      · have hget : (bitsOf q.data.toList)[k]? = some false := by rw [← eq_false_of_ne_true hbit]; exact bit_at q k h1
        go_wp2_with fail
        go_roundg (d - (k + 1))
        case measure => have := HGG.out; omega
        case rel =>
          refine ⟨k + 1, rfl, by go_num, by omega, by omega, ?_, HK.out⟩
          refine congrArg Value.string (ba_ext ?_)
          rw [take_next' hget, gone_snoc]
          simp [ByteArray.data_append, Array.toList_append, bs_data, wrapP]
    · by_cases hA : k < q.size
      · have d1 : decide ((k : Int) < (q.size : Int)) = true := by simpa using hA
        have d2 : decide ((k : Int) < (d : Int)) = false := by simp; omega
        by_cases hB : q.size < d
        · exact absurd hB (by omega)
        · have d3 : decide ((d : Int) > (q.size : Int)) = false := by simp; omega
          obtain rfl : k = d := by omega
          have hpl : ((bitsOf q.data.toList).take k).length = k := by rw [List.length_take, HBL.out]; omega
          have htt : treeP k (bitsOf q.data.toList) 0 = treeP ((bitsOf q.data.toList).take k).length ((bitsOf q.data.toList).take k) 0 := by rw [hpl]; exact tree_take k _ 0
          by_cases h3 : 300 < (bs (goneP ((bitsOf q.data.toList).take k) (treeP k (bitsOf q.data.toList) 0).1)).size
          · have d4 : decide (((bs (goneP ((bitsOf q.data.toList).take k) (treeP k (bitsOf q.data.toList) 0).1)).size : Int) > 300) = true := by simp only [gt_iff_lt, decide_eq_true_eq]; omega
            clear htt
            go_wp2_with fail
            go_ret
            exact ⟨rfl, HK.out⟩
          · have d4 : decide (((bs (goneP ((bitsOf q.data.toList).take k) (treeP k (bitsOf q.data.toList) 0).1)).size : Int) > 300) = false := by simp only [gt_iff_lt, decide_eq_false_iff_not]; omega
            have hki := HI.out ((bitsOf q.data.toList).take k) (by rw [hpl]; exact hn) (by rw [← htt, ← bs_size]; omega)
            rw [← htt] at hki
            have HC := Lib.hid (has_any (treeP k (bitsOf q.data.toList) 0).2.1 hki wr (HG.out.keeps HK.out (by simp)))
            clear htt hki
            go_wp2_with fail
            refine HC.out.mono ?_
            rintro e w3 ⟨rfl, hk3⟩
            simp only [decide_true]
            have HK3 := Lib.hid (HK.out.trans0 hk3)
            clear hk3
            go_wp2
            go_ret
            exact ⟨rfl, HK3.out⟩
      · have d1 : decide ((k : Int) < (q.size : Int)) = false := by simpa using hA
        by_cases hB : q.size < d
        · have d3 : decide ((d : Int) > (q.size : Int)) = true := by simp; omega
          go_wp2_with fail
          go_ret
          exact ⟨rfl, HK.out⟩
        · have d3 : decide ((d : Int) > (q.size : Int)) = false := by simp; omega
          obtain rfl : k = d := by omega
          have hpl : ((bitsOf q.data.toList).take k).length = k := by rw [List.length_take, HBL.out]; omega
          have htt : treeP k (bitsOf q.data.toList) 0 = treeP ((bitsOf q.data.toList).take k).length ((bitsOf q.data.toList).take k) 0 := by rw [hpl]; exact tree_take k _ 0
          by_cases h3 : 300 < (bs (goneP ((bitsOf q.data.toList).take k) (treeP k (bitsOf q.data.toList) 0).1)).size
          · have d4 : decide (((bs (goneP ((bitsOf q.data.toList).take k) (treeP k (bitsOf q.data.toList) 0).1)).size : Int) > 300) = true := by simp only [gt_iff_lt, decide_eq_true_eq]; omega
            clear htt
            go_wp2_with fail
            go_ret
            exact ⟨rfl, HK.out⟩
          · have d4 : decide (((bs (goneP ((bitsOf q.data.toList).take k) (treeP k (bitsOf q.data.toList) 0).1)).size : Int) > 300) = false := by simp only [gt_iff_lt, decide_eq_false_iff_not]; omega
            have hki := HI.out ((bitsOf q.data.toList).take k) (by rw [hpl]; exact hn) (by rw [← htt, ← bs_size]; omega)
            rw [← htt] at hki
            have HC := Lib.hid (has_any (treeP k (bitsOf q.data.toList) 0).2.1 hki wr (HG.out.keeps HK.out (by simp)))
            clear htt hki
            go_wp2_with fail
            refine HC.out.mono ?_
            rintro e w3 ⟨rfl, hk3⟩
            simp only [decide_true]
            have HK3 := Lib.hid (HK.out.trans0 hk3)
            clear hk3
            go_wp2
            go_ret
            exact ⟨rfl, HK3.out⟩
end Go.Proofs.YtpbplpnifjbkoaaGreatDoor

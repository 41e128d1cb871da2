/-
  schemeskeep.tree and Path, by contracts, out of what infer comes to.
-/
import Derived.Test.YtpbplpnifjbkoaaGreatDoorTi
import Derived.Deep.RegionLaw
namespace Go.Proofs.YtpbplpnifjbkoaaGreatDoor
open Go.RowKit

def bitB (b : UInt8) : Bool := b % 2 == 1
def bitsOf (p : Bytes) : List Bool := p.map bitB
def leavesA : Array Value := #[.string ⟨#[49]⟩, .string ⟨#[116, 114, 117, 101]⟩, .string ⟨#[110, 105, 108]⟩, .string ⟨#[97, 100, 100]⟩, .string ⟨#[104, 100]⟩]
def typsA : Array Value := #[.string ⟨#[105, 110, 116]⟩, .string ⟨#[98, 111, 111, 108]⟩, .string ⟨#[91, 97, 93]⟩, .string ⟨#[105, 110, 116, 32, 45, 62, 32, 105, 110, 116, 32, 45, 62, 32, 105, 110, 116]⟩, .string ⟨#[91, 97, 93, 32, 45, 62, 32, 97]⟩]
theorem leaf_cell (k : Nat) (h : k < 5) : leavesA[k]? = some (.string (bs (leavesP.getD k []))) ∧ typsA[k]? = some (.string (bs (typsP.getD k []))) := by
  match k, h with
  | 0, _ => exact ⟨rfl, rfl⟩
  | 1, _ => exact ⟨rfl, rfl⟩
  | 2, _ => exact ⟨rfl, rfl⟩
  | 3, _ => exact ⟨rfl, rfl⟩
  | 4, _ => exact ⟨rfl, rfl⟩
theorem leaf_len (k : Nat) (h : k < 5) : (leavesP.getD k []).length ≤ 4 := by
  match k, h with
  | 0, _ => decide
  | 1, _ => decide
  | 2, _ => decide
  | 3, _ => decide
  | 4, _ => decide
theorem tree_len (d : Nat) : ∀ (p : List Bool) (n : Nat), (treeP d p n).1.length + 4 ≤ 8 * 2 ^ d ∧ (treeP d p n).2.2 = n + 2 ^ d := by
  induction d with
  | zero => intro p n; have := leaf_len (n % 5) (Nat.mod_lt _ (by omega)); simp only [treeP, Nat.pow_zero]; refine ⟨?_, trivial⟩; omega
  | succ d ih =>
    intro p n
    have h1 := ih p.tail n
    have h2 := ih p.tail (treeP d p.tail n).2.2
    simp only [treeP, List.length_append, List.length_cons, List.length_nil]
    rw [Nat.pow_succ]
    omega

theorem tup_eq {x y : ByteArray} {u v : Value} (h : x = y) (k : u = v) : Ending.returned (.tuple #[.string x, u]) = Ending.returned (.tuple #[.string y, v]) := by subst h; subst k; rfl
theorem head_bit (p : ByteArray) (h : 0 < p.size) : (bitsOf p.data.toList).head? = some ((p[0].toNat : Int) % 2 == 1) := by
  have h1 : p.data.toList[0]? = some p[0] := by
    rw [List.getElem?_eq_getElem (by simpa using h), ba_get p 0 h]
  have h2 : (bitsOf p.data.toList).head? = some (bitB p[0]) := by
    unfold bitsOf
    rw [List.head?_map, List.head?_eq_getElem?, h1]
    rfl
  rw [h2]
  congr 1
  unfold bitB
  have h3 : (p[0] % 2).toNat = p[0].toNat % 2 := by simp
  by_cases hb : p[0].toNat % 2 = 1
  · have e1 : p[0] % 2 = 1 := by
      apply UInt8.toNat.inj
      rw [h3, hb]
      rfl
    have e2 : (p[0].toNat : Int) % 2 = 1 := by omega
    rw [e1, e2]
    rfl
  · have e1 : p[0] % 2 ≠ 1 := fun e => hb (by rw [← h3, e]; rfl)
    have e2 : (p[0].toNat : Int) % 2 ≠ 1 := by omega
    rw [beq_eq_false_iff_ne.2 e1, beq_eq_false_iff_ne.2 e2]
set_option maxRecDepth 100000 in
set_option maxHeartbeats 4000000 in
theorem tree_any {nb gl gt : Nat} {cl ct : Nat} (hgl : gl ≠ nb) (hgt : gt ≠ nb) : ∀ (d : Nat), d ≤ 4 → ∀ (p : ByteArray) (n : Nat) (w : World), p.size ≤ 1000 → n + 2 ^ d ≤ 500 → w.heap[nb]? = some (.cells #[.int .i64 n] 3 (0, 0)) → w.heap[gl]? = some (.cells leavesA 9 (0, 0)) → w.heap[gt]? = some (.cells typsA 9 (0, 0)) →
    Calls Tryz.prog 30 #[.int .i64 d, .string p, .pointer (some ⟨nb, 0, none⟩), .slice (some ⟨gl, 0, none⟩) 5 cl, .slice (some ⟨gt, 0, none⟩) 5 ct] w fun e w' =>
      e = .returned (.tuple #[.string (bs (treeP d (bitsOf p.data.toList) n).1), .string (bs (treeP d (bitsOf p.data.toList) n).2.1)]) ∧ w'.heap[nb]? = some (.cells #[.int .i64 (treeP d (bitsOf p.data.toList) n).2.2] 3 (0, 0)) ∧ Keeps [nb] w w' := by
  intro d
  induction d with
  | zero =>
    intro _ p n w hp hn hb hl ht
    obtain ⟨k, hkn⟩ : ∃ k, k = n % 5 := ⟨_, rfl⟩
    have hlt : k < 5 := by rw [hkn]; exact Nat.mod_lt _ (by omega)
    have hk := leaf_cell k hlt
    have c0 := cell_of_block hb 0
    have f0 := free_of_block hb 0
    have hbl := lt_of_some hb
    have c1 : w.cell? ⟨gl, k, none⟩ = some (.string (bs (leavesP.getD k []))) := (cell_of_block hl _).trans hk.1
    have c2 : w.cell? ⟨gt, k, none⟩ = some (.string (bs (typsP.getD k []))) := (cell_of_block ht _).trans hk.2
    have hm2 : (n : Int) % 5 = (k : Int) := by omega
    have hm : Int.tmod (n : Int) 5 = (k : Int) := by rw [Int.tmod_eq_emod_of_nonneg (by omega)]; exact hm2
    have HKN := Lib.hid hkn
    clear hkn
    have HB := Lib.hid hb
    simp at c0
    clear hb hl ht hk
    go_enter Tryz.func30, Tryz.ntmps30
    go_wp2_with fail
    go_region
    all_goals
      go_wp2
      go_ret2
      refine ⟨?_, ?_, ?_⟩
      · simp only [treeP, ← HKN.out, List.getD_eq_getElem?_getD]
        rfl
      · have := block_setCell HB.out 0 (.int .i64 ((n : Int) + 1))
        have h2 : (w.setCell ⟨nb, 0, none⟩ (.int .i64 ((n : Int) + 1))).heap[nb]? = some (.cells #[.int .i64 ((n + 1 : Nat) : Int)] 3 (0, 0)) := by simpa using this
        exact h2
      · exact ((Keeps.refl [nb] w).setCell (.inl (by simp)) _).drew
  | succ d ih =>
    intro hd p n w hp hn hb hl ht
    have IH := Lib.hid (ih (by omega))
    have HB := Lib.hid hb
    have HL := Lib.hid hl
    have HT := Lib.hid ht
    have hdz : decide (((d + 1 : Nat) : Int) = 0) = false := by simp; omega
    have h2d : 2 ^ (d + 1) = 2 ^ d * 2 := Nat.pow_succ 2 d
    clear ih hb hl ht
    go_enter Tryz.func30, Tryz.ntmps30
    by_cases hp1 : 1 < p.size
    · have hd1 : decide ((p.size : Int) > 1) = true := by simp; omega
      have hrs : bitsOf (p.extract 1 p.size).data.toList = (bitsOf p.data.toList).tail := by
        have h1 : p.data.toList.length = p.size := by simp
        simp [bitsOf]
        rw [List.take_of_length_le (by simp)]
      have hrz : (p.extract 1 p.size).size ≤ 1000 := by simp; omega
      have HRS := Lib.hid hrs
      clear hrs
      go_wp2_with fail
      refine (IH.out (p.extract 1 p.size) n w hrz (by omega) HB.out HL.out HT.out).mono ?_
      rintro e w1 ⟨rfl, hb1, hk1⟩
      rw [HRS.out] at hb1 ⊢
      have hl1 := hk1.some HL.out (by simpa using hgl)
      have ht1 := hk1.some HT.out (by simpa using hgt)
      have HC2 := Lib.hid (IH.out (p.extract 1 p.size) _ w1 hrz (by have := (tree_len d (bitsOf p.data.toList).tail n).2; omega) hb1 hl1 ht1)
      have HK1 := Lib.hid hk1
      clear hb1 hl1 ht1 hk1
      go_wp2_with fail
      refine HC2.out.mono ?_
      rintro e w2 ⟨rfl, hb2, hk2⟩
      rw [HRS.out] at hb2 ⊢
      have HB2 := Lib.hid hb2
      have HK2 := Lib.hid (HK1.out.trans hk2 (by simp))
      clear hb2 hk2
      have la := (tree_len d (bitsOf p.data.toList).tail n).1
      have lb := (tree_len d (bitsOf p.data.toList).tail (treeP d (bitsOf p.data.toList).tail n).2.2).1
      have za : (bs (treeP d (bitsOf p.data.toList).tail n).1).size ≤ 4000 := by rw [bs_size]; omega
      have zb : (bs (treeP d (bitsOf p.data.toList).tail (treeP d (bitsOf p.data.toList).tail n).2.2).1).size ≤ 4000 := by rw [bs_size]; omega
      have s1 : ¬ 9223372036854775807 < 1 + (bs (treeP d (bitsOf p.data.toList).tail n).1).size := by omega
      have s2 : ¬ 9223372036854775807 < 1 + (bs (treeP d (bitsOf p.data.toList).tail n).1).size + 2 := by omega
      have s3 : ¬ 9223372036854775807 < 1 + (bs (treeP d (bitsOf p.data.toList).tail n).1).size + 2 + (bs (treeP d (bitsOf p.data.toList).tail (treeP d (bitsOf p.data.toList).tail n).2.2).1).size := by omega
      have s4 : ¬ 9223372036854775807 < 1 + (bs (treeP d (bitsOf p.data.toList).tail n).1).size + 2 + (bs (treeP d (bitsOf p.data.toList).tail (treeP d (bitsOf p.data.toList).tail n).2.2).1).size + 1 := by omega
      clear la lb za zb
      by_cases h0 : 0 < p.size
      · have hh := head_bit p h0
        by_cases hbit : ((p[0].toNat : Int) % 2 == 1) = true
        · rw [hbit] at hh
          go_wp2_with fail
          go_ret2
          refine ⟨?_, ?_, HK2.out⟩
          · simp only [treeP, hh]
            refine tup_eq (ba_ext ?_) ?_
            · simp [ByteArray.data_append, Array.toList_append, bs_data]
            · first | rfl | simp
          · simp only [treeP]
            exact HB2.out
        · rw [eq_false_of_ne_true hbit] at hh
          go_wp2_with fail
          go_ret2
          refine ⟨?_, ?_, HK2.out⟩
          · simp only [treeP, hh]
            refine tup_eq (ba_ext ?_) ?_
            · simp [ByteArray.data_append, Array.toList_append, bs_data]
            · first | rfl | simp
          · simp only [treeP]
            exact HB2.out
      · have hh : (bitsOf p.data.toList).head? = none := by
          have h1 : p.data.toList.length = 0 := by have h5 : p.data.toList.length = p.size := (by simp); omega
          rw [List.length_eq_zero_iff.1 h1]
          rfl
        go_wp2_with fail
        go_ret2
        refine ⟨?_, ?_, HK2.out⟩
        · simp only [treeP, hh]
          refine tup_eq (ba_ext ?_) ?_
          · simp [ByteArray.data_append, Array.toList_append, bs_data]
          · first | rfl | simp
        · simp only [treeP]
          exact HB2.out
    · have hd1 : decide ((p.size : Int) > 1) = false := by simp; omega
      have hrs : bitsOf (⟨#[]⟩ : ByteArray).data.toList = (bitsOf p.data.toList).tail := by
        have h1 : p.data.toList.length ≤ 1 := by simp; omega
        match hpl : p.data.toList, h1 with
        | [], _ => rfl
        | [_], _ => rfl
      have HRS := Lib.hid hrs
      clear hrs
      go_wp2_with fail
      refine (IH.out ⟨#[]⟩ n w (by decide) (by omega) HB.out HL.out HT.out).mono ?_
      rintro e w1 ⟨rfl, hb1, hk1⟩
      rw [HRS.out] at hb1 ⊢
      have hl1 := hk1.some HL.out (by simpa using hgl)
      have ht1 := hk1.some HT.out (by simpa using hgt)
      have HC2 := Lib.hid (IH.out ⟨#[]⟩ _ w1 (by decide) (by have := (tree_len d (bitsOf p.data.toList).tail n).2; omega) hb1 hl1 ht1)
      have HK1 := Lib.hid hk1
      clear hb1 hl1 ht1 hk1
      go_wp2_with fail
      refine HC2.out.mono ?_
      rintro e w2 ⟨rfl, hb2, hk2⟩
      rw [HRS.out] at hb2 ⊢
      have HB2 := Lib.hid hb2
      have HK2 := Lib.hid (HK1.out.trans hk2 (by simp))
      clear hb2 hk2
      have la := (tree_len d (bitsOf p.data.toList).tail n).1
      have lb := (tree_len d (bitsOf p.data.toList).tail (treeP d (bitsOf p.data.toList).tail n).2.2).1
      have za : (bs (treeP d (bitsOf p.data.toList).tail n).1).size ≤ 4000 := by rw [bs_size]; omega
      have zb : (bs (treeP d (bitsOf p.data.toList).tail (treeP d (bitsOf p.data.toList).tail n).2.2).1).size ≤ 4000 := by rw [bs_size]; omega
      have s1 : ¬ 9223372036854775807 < 1 + (bs (treeP d (bitsOf p.data.toList).tail n).1).size := by omega
      have s2 : ¬ 9223372036854775807 < 1 + (bs (treeP d (bitsOf p.data.toList).tail n).1).size + 2 := by omega
      have s3 : ¬ 9223372036854775807 < 1 + (bs (treeP d (bitsOf p.data.toList).tail n).1).size + 2 + (bs (treeP d (bitsOf p.data.toList).tail (treeP d (bitsOf p.data.toList).tail n).2.2).1).size := by omega
      have s4 : ¬ 9223372036854775807 < 1 + (bs (treeP d (bitsOf p.data.toList).tail n).1).size + 2 + (bs (treeP d (bitsOf p.data.toList).tail (treeP d (bitsOf p.data.toList).tail n).2.2).1).size + 1 := by omega
      clear la lb za zb
      by_cases h0 : 0 < p.size
      · have hh := head_bit p h0
        by_cases hbit : ((p[0].toNat : Int) % 2 == 1) = true
        · rw [hbit] at hh
          go_wp2_with fail
          go_ret2
          refine ⟨?_, ?_, HK2.out⟩
          · simp only [treeP, hh]
            refine tup_eq (ba_ext ?_) ?_
            · simp [ByteArray.data_append, Array.toList_append, bs_data]
            · first | rfl | simp
          · simp only [treeP]
            exact HB2.out
        · rw [eq_false_of_ne_true hbit] at hh
          go_wp2_with fail
          go_ret2
          refine ⟨?_, ?_, HK2.out⟩
          · simp only [treeP, hh]
            refine tup_eq (ba_ext ?_) ?_
            · simp [ByteArray.data_append, Array.toList_append, bs_data]
            · first | rfl | simp
          · simp only [treeP]
            exact HB2.out
      · have hh : (bitsOf p.data.toList).head? = none := by
          have h1 : p.data.toList.length = 0 := by have h5 : p.data.toList.length = p.size := (by simp); omega
          rw [List.length_eq_zero_iff.1 h1]
          rfl
        go_wp2_with fail
        go_ret2
        refine ⟨?_, ?_, HK2.out⟩
        · simp only [treeP, hh]
          refine tup_eq (ba_ext ?_) ?_
          · simp [ByteArray.data_append, Array.toList_append, bs_data]
          · first | rfl | simp
        · simp only [treeP]
          exact HB2.out
end Go.Proofs.YtpbplpnifjbkoaaGreatDoor

/-
  schemeskeep.infer, by contract: what the plain inference says at the ten names.
-/
import Derived.Test.YtpbplpnifjbkoabGreatDoorTi
import Derived.Test.YtpbplpnifjbkoabGreatDoorPin
import Derived.Test.YtpbplpnifjbkoabGreatDoorNamx
namespace Go.Proofs.YtpbplpnifjbkoabGreatDoor
open Go.RowKit

def namesK : List Bytes := [[116, 114, 117, 101], [110, 105, 108], [99, 111, 110, 115], [102, 115, 116], [115, 110, 100], [97, 100, 100], [101, 113], [104, 100], [116, 108], [101, 109, 112, 116, 121]]
def typesK : List Bytes := [[98, 111, 111, 108], [91, 97, 93], [97, 32, 45, 62, 32, 91, 97, 93, 32, 45, 62, 32, 91, 97, 93], [40, 97, 44, 32, 98, 41, 32, 45, 62, 32, 97], [40, 97, 44, 32, 98, 41, 32, 45, 62, 32, 98], [105, 110, 116, 32, 45, 62, 32, 105, 110, 116, 32, 45, 62, 32, 105, 110, 116], [97, 32, 45, 62, 32, 97, 32, 45, 62, 32, 98, 111, 111, 108], [91, 97, 93, 32, 45, 62, 32, 97], [91, 97, 93, 32, 45, 62, 32, 91, 97, 93], [91, 120, 93, 32, 45, 62, 32, 98, 111, 111, 108]]
def ksK : List Bytes := envK.map (·.1)
theorem ksK_sorted : ksOf ksK = ksK := by
  unfold ksOf
  refine List.mergeSort_of_pairwise ?_
  decide +kernel
theorem ksK_nodup : ksK.Nodup := by decide +kernel
theorem ksK_mem (x : Bytes) : x ∈ ksK ↔ (envF (namesK.zip typesK) x).isSome = true := by
  have h : ∀ (l : List (Bytes × Bytes)) (f : Bytes → Option Bytes), ((l.foldl (fun f p => fun y => if y = p.1 then some p.2 else f y) f) x).isSome = true ↔ (x ∈ l.map (·.1) ∨ (f x).isSome = true) := by
    intro l
    induction l with
    | nil => intro f; simp
    | cons p r ih =>
      intro f
      simp only [List.foldl_cons, ih, List.map_cons, List.mem_cons]
      by_cases hx : x = p.1
      · simp [hx]
      · simp [hx]
  rw [envF, h]
  simp only [Option.isSome_none, Bool.false_eq_true, or_false]
  have h2 : ksK.Perm ((namesK.zip typesK).map (·.1)) := by decide +kernel
  exact h2.mem_iff
theorem pairs_K : pairsF (envF (namesK.zip typesK)) ksK = envK := by decide +kernel

theorem srow_block {W : World} {b cap : Nat} {cs : Array Value} {xs : List Bytes} (h : W.heap[b]? = some (.cells cs 9 (0, 0))) (hc : cs.toList = xs.map sV) : SRow W 0 (.slice (some ⟨b, 0, none⟩) xs.length cap) xs := by
  refine ⟨_, _, rfl, fun j x hj => ⟨b, Nat.zero_le _, rfl, ?_⟩⟩
  rw [cell_of_block h j]
  have : cs.toList[j]? = some (sV x) := by rw [hc, List.getElem?_map, hj]; rfl
  simpa using this
set_option maxRecDepth 100000 in
theorem envNames_any (w : World) : Calls Tryz.prog 42 #[] w fun e w' => ∃ v, e = .returned v ∧ SRow w' 0 v namesK ∧ Keeps [] w w' := by
  go_enter Tryz.func42, Tryz.ntmps42
  go_wp2
  go_ret
  exact ⟨_, rfl, srow_block (xs := namesK) (cap := 10) (block_alloc w _) rfl, (Keeps.refl [] w).alloc _⟩
set_option maxRecDepth 100000 in
theorem envTypes_any (w : World) : Calls Tryz.prog 43 #[] w fun e w' => ∃ v, e = .returned v ∧ SRow w' 0 v typesK ∧ Keeps [] w w' := by
  go_enter Tryz.func43, Tryz.ntmps43
  go_wp2
  go_ret
  exact ⟨_, rfl, srow_block (xs := typesK) (cap := 10) (block_alloc w _) rfl, (Keeps.refl [] w).alloc _⟩

set_option maxRecDepth 100000 in
set_option maxHeartbeats 4000000 in
theorem kinf_any {a : Nat → Addr} {B : Nat} {src : Bytes} {r : Bytes × FaultR × List Told} (hof : ∀ x, readExp src = .ok x → ∀ (L : Inhabited Low) (Br : Inhabited Bar) (lo hi gb ab : Nat), @Rig L a B lo hi gb ab [] (fun _ _ => True) → @OfOK L Br a B lo hi gb ab 6 400 .nilFunc none [] (fun _ _ => True) x)
    (hr4 : (r.2.1.what ≠ 4 ∧ r.2.1.what ≠ 5) ∨ r.2.1.s ≠ []) (hr : inferP 400 src envK 6 none = some r) : KInf a B src r.1 r.2.1 := by
  intro w hG
  have HC := Lib.hid (fun (W : World) (hW : Keeps [] w W) (sn st : Value) (h1 : SRow W 0 sn namesK) (h2 : SRow W 0 st typesK) =>
    plain_infer_any (hG.keeps hW (by simp)) src h1 h2 (by decide) (by decide +kernel) ksK_sorted ksK_nodup ksK_mem (by decide +kernel) (by decide +kernel) 6 (by omega) hof hr4 (by rw [pairs_K]; exact hr))
  clear hG hof hr4 hr
  have HK0 := Lib.hid ((Keeps.refl [] w).alloc (.cells #[.int .i64 0, .int .i64 0, .string ⟨#[]⟩, .int .i64 0, .int .i64 0] 26))
  have HB0 := Lib.hid (block_alloc w (.cells #[.int .i64 0, .int .i64 0, .string ⟨#[]⟩, .int .i64 0, .int .i64 0] 26))
  go_enter Tryz.func17, Tryz.ntmps17
  go_wp2_with fail
  refine (envNames_any _).mono ?_
  rintro e w1 ⟨sn, rfl, hs1, hk1⟩
  have HK1 := Lib.hid (HK0.out.trans0 hk1)
  have HB1 := Lib.hid (hk1.some HB0.out (by simp))
  have HS1 := Lib.hid hs1
  obtain ⟨sa, sc, rfl, _⟩ := hs1
  clear hk1
  go_wp2_with fail
  refine (envTypes_any _).mono ?_
  rintro e w2 ⟨st, rfl, hs2, hk2⟩
  have HK2 := Lib.hid (HK1.out.trans0 hk2)
  have HB2 := Lib.hid (hk2.some HB1.out (by simp))
  have HCALL := Lib.hid (HC.out _ HK2.out _ _ (HS1.out.keep0 hk2) hs2)
  obtain ⟨ta, tc, rfl, _⟩ := hs2
  clear hk2
  go_wp2_with fail
  refine HCALL.out.mono ?_
  rintro e w3 ⟨⟨bq, rfl⟩, hk3⟩
  have hb3 := hk3.some HB2.out (by simp)
  have r0 := cell_of_block hb3 0
  have r1 := cell_of_block hb3 1
  have r2 := cell_of_block hb3 2
  have r3 := cell_of_block hb3 3
  have r4 := cell_of_block hb3 4
  have f0 := free_of_block hb3 0
  have f1 := free_of_block hb3 1
  have f2 := free_of_block hb3 2
  have f3 := free_of_block hb3 3
  have f4 := free_of_block hb3 4
  have hl3 := lt_of_some hb3
  simp at r0 r1 r2 r3 r4
  have HK3 := Lib.hid (HK2.out.trans0 hk3)
  clear hb3 hk3
  go_wp2_with fail
  go_region
  all_goals
    go_wp2_with fail
    refine bodyPost_ret (v := .tuple #[.string (bs r.1), faultV r.2.1.what r.2.1.at_ (bs r.2.1.s) r.2.1.inner r.2.1.innerAt]) ?_ rfl ?_
    · simp [results, Tryz.results17, go_sem, r0, r1, r2, r3, r4, hl3]
    · exact ⟨rfl, by repeat (first | exact HK3.out | refine Keeps.drew ?_ | refine Keeps.alloc ?_ _ | refine Keeps.setCell ?_ (Or.inr (Nat.le_refl _)) _)⟩
end Go.Proofs.YtpbplpnifjbkoabGreatDoor

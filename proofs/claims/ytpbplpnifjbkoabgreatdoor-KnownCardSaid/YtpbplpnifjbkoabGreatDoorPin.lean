/-
  infer.Infer, plain.fault at whatever Infer gives, plain.Infer: by contracts.
-/
import Derived.Test.YtpbplpnifjbkoabGreatDoorWatx
import Derived.Test.YtpbplpnifjbkoabGreatDoorEm
import Derived.Test.YtpbplpnifjbkoabGreatDoorFu
import Derived.Deep.RegionLaw
namespace Go.Proofs.YtpbplpnifjbkoabGreatDoor
open Go.RowKit

theorem fault_out {a : Nat → Addr} {B : Nat} {w : World} (hG : Gl a B w) {f : FaultR} {v : Value} (h : OutAt a w f v) :
    Calls Tryz.prog 27 #[v] w fun e w' => e = .returned (faultV f.what f.at_ (bs f.s) f.inner f.innerAt) ∧ Keeps [] w w' := by
  rcases h with ⟨rfl, rfl⟩ | ⟨g, rfl, h⟩ | ⟨c, n, r, rfl, h, rfl⟩ | ⟨c, p, s, rfl, h, rfl⟩
  · exact fault_nil w
  · exact fault_any hG h
  · refine (fault_env w hG c (bs n) r h).mono ?_
    rintro e w' ⟨rfl, hk⟩
    refine ⟨?_, hk⟩
    cases r with
    | none => rfl
    | some g => rfl
  · exact fault_unb w hG c p (bs s) h

/-- An inference without a watcher. -/
theorem infer_any {a : Nat → Addr} {B : Nat} {w : World} (hG : Gl a B w) (src : Bytes) {mb nn : Nat} {f : Bytes → Option Bytes} {ks : List Bytes} (hmap : TMap w mb nn f) (hks : ksOf ks = ks) (hnd : ks.Nodup) (hmem : ∀ x, x ∈ ks ↔ (f x).isSome = true) (hfew : ks.length ≤ 150) (hlen : ∀ x ∈ ks, x.length ≤ 1000)
    (fuel : Int) (hfu : -9223372036854775808 ≤ fuel ∧ fuel ≤ 9223372036854775807) {r : Bytes × FaultR × List Told} (hof : ∀ x, readExp src = .ok x → ∀ (L : Inhabited Low) (Br : Inhabited Bar) (lo hi gb ab : Nat), @Rig L a B lo hi gb ab [] (fun _ _ => True) → @OfOK L Br a B lo hi gb ab fuel.toNat 400 .nilFunc none [] (fun _ _ => True) x)
    (hr4 : (r.2.1.what ≠ 4 ∧ r.2.1.what ≠ 5) ∨ r.2.1.s ≠ []) (hr : inferP 400 src (pairsF f ks) fuel none = some r) :
    Calls Tryz.prog 26 #[.string (bs src), .map (some mb), .int .i64 fuel] w (WatchPost a [] (fun _ _ => True) w r) := by
  have HC := Lib.hid (watch_any hG src hmap hks hnd hmem hfew hlen fuel hfu .nilFunc rfl none [] (fun _ _ => True) trivial (fun _ _ _ _ _ _ _ => trivial) (fun x hx => ⟨hof x hx, fun L ab _ => ⟨fun _ _ _ _ _ => trivial, fun _ _ _ _ hm => (by cases hm), fun _ _ _ _ _ _ _ => trivial⟩, fun m hm => by cases hm⟩) hr4 hr)
  clear hG hmap hks hnd hmem hlen hof hr
  go_enter Tryz.func26, Tryz.ntmps26
  go_wp2_with fail
  refine HC.out.mono ?_
  rintro e w1 ⟨hk, _, v, rfl, ho⟩
  have HK := Lib.hid hk
  have HO := Lib.hid ho
  clear hk ho
  go_wp2_with fail
  go_ret2
  exact ⟨HK.out, trivial, v, rfl, HO.out⟩

theorem SRow.keep0 {w w' : World} {lo : Nat} {v : Value} {xs : List Bytes} (h : SRow w lo v xs) (hk : Keeps [] w w') : SRow w' lo v xs := h.keep hk (by simp)

set_option maxRecDepth 100000 in
set_option maxHeartbeats 4000000 in
theorem plain_infer_any {a : Nat → Addr} {B : Nat} {w : World} (hG : Gl a B w) (src : Bytes) {ns ts : List Bytes} {sn st : Value} (h1 : SRow w 0 sn ns) (h2 : SRow w 0 st ts) (hl : ns.length ≤ 150) (hs : ∀ x ∈ ns, x.length ≤ 1000) {ks : List Bytes} (hks : ksOf ks = ks) (hnd : ks.Nodup) (hmem : ∀ x, x ∈ ks ↔ (envF (ns.zip ts) x).isSome = true) (hfew : ks.length ≤ 150) (hlen : ∀ x ∈ ks, x.length ≤ 1000)
    (fuel : Int) (hfu : -9223372036854775808 ≤ fuel ∧ fuel ≤ 9223372036854775807) {r : Bytes × FaultR × List Told} (hof : ∀ x, readExp src = .ok x → ∀ (L : Inhabited Low) (Br : Inhabited Bar) (lo hi gb ab : Nat), @Rig L a B lo hi gb ab [] (fun _ _ => True) → @OfOK L Br a B lo hi gb ab fuel.toNat 400 .nilFunc none [] (fun _ _ => True) x)
    (hr4 : (r.2.1.what ≠ 4 ∧ r.2.1.what ≠ 5) ∨ r.2.1.s ≠ []) (hr : inferP 400 src (pairsF (envF (ns.zip ts)) ks) fuel none = some r) :
    Calls Tryz.prog 41 #[.string (bs src), sn, st, .int .i64 fuel] w fun e w' => (∃ b, e = .returned (.tuple #[.string (bs r.1), faultV r.2.1.what r.2.1.at_ (bs r.2.1.s) r.2.1.inner r.2.1.innerAt, .bool b])) ∧ Keeps [] w w' := by
  have hk0 : Keeps [] w (w.alloc (.cells #[.int .i64 0, .int .i64 0, .string ⟨#[]⟩, .int .i64 0, .int .i64 0] 26)) := (Keeps.refl [] w).alloc _
  have HK0 := Lib.hid hk0
  have HBF := Lib.hid (block_alloc w (.cells #[.int .i64 0, .int .i64 0, .string ⟨#[]⟩, .int .i64 0, .int .i64 0] 26))
  have HG := Lib.hid hG
  have H1 := Lib.hid h1
  have H2 := Lib.hid h2
  have HENV := Lib.hid (fun (W : World) (hW : Keeps [] w W) => env_any (by omega) hs (h1.keep0 hW) (h2.keep0 hW))
  have HINF := Lib.hid (fun (W : World) (hW : Keeps [] w W) (mb nn : Nat) (hm : TMap W mb nn (envF (ns.zip ts))) => infer_any (hG.keeps hW (by simp)) src hm hks hnd hmem hfew hlen fuel hfu hof hr4 hr)
  obtain ⟨sa, sc, rfl, _⟩ := h1
  obtain ⟨ta, tc, rfl, _⟩ := h2
  clear hk0 hG hs hks hnd hmem hlen hof hr
  go_enter Tryz.func41, Tryz.ntmps41
  go_wp2_with fail
  refine (HENV.out _ HK0.out).mono ?_
  rintro e w1 ⟨mb, k, rfl, hk, hm, hk1, hmb⟩
  have HK1 := Lib.hid (HK0.out.trans0 hk1)
  have HBF1 := Lib.hid (hk1.some HBF.out (by simp))
  have HM1 := Lib.hid hm
  clear hm hk1
  go_wp2_with fail
  refine (HINF.out _ HK1.out _ _ HM1.out).mono ?_
  rintro e w2 ⟨hk2, _, v, rfl, ho⟩
  have HK2 := Lib.hid (HK1.out.trans0 hk2)
  have hb2 := hk2.some HBF1.out (by simp)
  have HM2 := Lib.hid (HM1.out.same (hk2.block _ HM1.out.lt (by simp)))
  have HBF2 := Lib.hid hb2
  have HF := Lib.hid (fault_out (HG.out.keeps HK2.out (by simp)) ho)
  clear hk2 ho hb2
  go_wp2_with fail
  refine HF.out.mono ?_
  rintro e w3 ⟨rfl, hk3⟩
  have HK3 := Lib.hid (HK2.out.trans0 hk3)
  have HM3 := Lib.hid (HM2.out.same (hk3.block _ HM2.out.lt (by simp)))
  have HBF3 := Lib.hid (hk3.some HBF2.out (by simp))
  clear hk3
  go_wp2_with fail
  refine (HENV.out _ HK3.out).mono ?_
  rintro e w4 ⟨mb2, k2, rfl, hkk2, hm4, hk4, hmb2⟩
  have HK4 := Lib.hid (HK3.out.trans0 hk4)
  have HM4 := Lib.hid (HM3.out.same (hk4.block _ HM3.out.lt (by simp)))
  have HM4' := Lib.hid hm4
  have HBF4 := Lib.hid (hk4.some HBF3.out (by simp))
  clear hk4 hm4
  go_wp2_with fail
  refine (maps_equal_any HM4.out HM4'.out).mono ?_
  rintro e w5 ⟨⟨bq, rfl⟩, hk5⟩
  have hb5 := hk5.some HBF4.out (by simp)
  have r0 := cell_of_block hb5 0
  have r1 := cell_of_block hb5 1
  have r2 := cell_of_block hb5 2
  have r3 := cell_of_block hb5 3
  have r4 := cell_of_block hb5 4
  have f0 := free_of_block hb5 0
  have f1 := free_of_block hb5 1
  have f2 := free_of_block hb5 2
  have f3 := free_of_block hb5 3
  have f4 := free_of_block hb5 4
  have hl5 := lt_of_some hb5
  simp at r0 r1 r2 r3 r4
  have HK5 := Lib.hid (HK4.out.trans0 hk5)
  clear hb5 hk5
  go_wp2_with fail
  refine bodyPost_ret (v := .tuple #[.string (bs r.1), faultV r.2.1.what r.2.1.at_ (bs r.2.1.s) r.2.1.inner r.2.1.innerAt, .bool (!bq)]) ?_ rfl ?_
  · simp [results, Tryz.results41, go_sem, r0, r1, r2, r3, r4]
  · exact ⟨⟨_, rfl⟩, by repeat (first | exact HK5.out | refine Keeps.drew ?_ | refine Keeps.alloc ?_ _ | refine Keeps.setCell ?_ (Or.inr (Nat.le_refl _)) _)⟩
end Go.Proofs.YtpbplpnifjbkoabGreatDoor

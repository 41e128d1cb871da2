/-
  schemeslaw.Canons by contracts: it returns true.
-/
import Derived.Test.YtpbplpnifjbkoaaDoorSaid
import Derived.Test.YtpbplpnifjbkoaaDoorTcan
import Derived.Test.YtpbplpnifjbkoaaDoorRpd
import Derived.Test.YtpbplpnifjbkoaaDoorRcan
namespace Go.Proofs.YtpbplpnifjbkoaaDoor
open Go.RowKit

theorem readTyp_pos {s : Bytes} {f : Nat × Nat} (h : readTyp s = .error f) : f.1 = 1 ∨ f.1 = 2 ∨ f.1 = 8 := by
  by_cases hs : 300 < s.length
  · unfold readTyp at h; rw [if_pos hs] at h; cases h; exact .inl rfl
  · obtain ⟨res, hres, _⟩ := readTyp_spec s (by omega)
    rw [readTyp_eq hs hres] at h
    cases res with
    | error p => simp [finT] at h; subst h; exact .inr (.inl rfl)
    | ok q =>
      obtain ⟨x, ts⟩ := q
      simp only [finT] at h
      split at h
      · split at h
        · cases h; exact .inr (.inr rfl)
        · cases h
      · cases h; exact .inr (.inl rfl)

def PlainCanonK (w : World) (r : Except (Nat × Nat) (Ty × List Bytes)) (e : Ending) (w' : World) : Prop :=
  Keeps [] w w' ∧ e = .returned (match r with
    | .ok q => .tuple #[.string (bs (canon q.1)), faultV 0 0 ⟨#[]⟩ 0 0]
    | .error f => .tuple #[.string ⟨#[]⟩, faultV f.1 (placeOf f) ⟨#[]⟩ 0 0])
theorem plain_canon_k {a : Nat → Addr} {B : Nat} (w : World) (hG : Gl a B w) (s : ByteArray) : Calls Tryd.prog 12 #[.string s] w (PlainCanonK w (readTyp s.data.toList)) := by
  letI : Inhabited Low := ⟨⟨w.heap.size⟩⟩
  refine (plain_canon w hG (Nat.le_refl _) s).mono ?_
  rintro e w' ⟨hk, he⟩
  exact ⟨hk.keeps (Nat.le_refl _), he⟩

set_option maxRecDepth 100000 in
set_option maxHeartbeats 4000000 in
theorem canons_law {a : Nat → Addr} {B : Nat} (w : World) (hG : Gl a B w) (s : ByteArray) : Calls Tryd.prog 5 #[.string s] w fun e w' => e = .returned (.bool true) ∧ Keeps [] w w' := by
  have HG := Lib.hid hG
  clear hG
  go_enter Tryd.func5, Tryd.ntmps5
  go_wp2_with fail
  refine (plain_canon_k w HG.out s).mono ?_
  rintro e w1 ⟨hk, h⟩
  have K1 := Lib.hid hk
  clear hk
  cases hr : readTyp s.data.toList with
  | error f =>
    rw [hr] at h
    obtain rfl := h
    have hp := readTyp_pos hr
    have HR := Lib.hid hr
    clear hr
    obtain ⟨f1, f2⟩ := f
    go_wp2_with fail
    refine (rparsed_any _ s).mono ?_
    rintro e w2 ⟨hk, h⟩
    rw [HR.out] at h
    obtain rfl := h
    have HK2 := Lib.hid hk
    have hbg := hk.some (block_alloc w1 _) (by simp)
    have z0 : w2.cell? ⟨w1.heap.size, 0, none⟩ = some (.int .i64 (f1 : Nat)) := cell_of_block hbg 0
    have z1 : w2.cell? ⟨w1.heap.size, 1, none⟩ = some (.int .i64 (placeOf (f1, f2) : Nat)) := cell_of_block hbg 1
    have z2 : w2.cell? ⟨w1.heap.size, 2, none⟩ = some (.string ⟨#[]⟩) := cell_of_block hbg 2
    have z3 : w2.cell? ⟨w1.heap.size, 3, none⟩ = some (.int .i64 0) := cell_of_block hbg 3
    have z4 : w2.cell? ⟨w1.heap.size, 4, none⟩ = some (.int .i64 0) := cell_of_block hbg 4
    have hz : w1.heap.size < w2.heap.size := lt_of_some hbg
    have hpos : 0 < f1 := by have hp' : f1 = 1 ∨ f1 = 2 ∨ f1 = 8 := hp; omega
    have hpd : decide (0 < f1) = true := by simpa using hpos
    clear hk hbg hp
    go_wp2_with fail
    have bf := block_alloc w2 (.cells #[.int .i64 (f1 : Nat), .int .i64 (placeOf (f1, f2) : Nat), .string ⟨#[]⟩, .int .i64 0, .int .i64 0] 32)
    have KV := Lib.hid ((K1.out.trans0 (((Keeps.refl [] w1).alloc _).trans0 HK2.out)).alloc (.cells #[.int .i64 (f1 : Nat), .int .i64 (placeOf (f1, f2) : Nat), .string ⟨#[]⟩, .int .i64 0, .int .i64 0] 32))
    have ka := (Keeps.refl [] w2).alloc (.cells #[.int .i64 (f1 : Nat), .int .i64 (placeOf (f1, f2) : Nat), .string ⟨#[]⟩, .int .i64 0, .int .i64 0] 32)
    have v0 := ka.cellSome z0 (by simp)
    have v1 := ka.cellSome z1 (by simp)
    have v2 := ka.cellSome z2 (by simp)
    have v3 := ka.cellSome z3 (by simp)
    have v4 := ka.cellSome z4 (by simp)
    have v5 := cell_of_block bf 0
    have v6 := cell_of_block bf 1
    have v7 := cell_of_block bf 2
    have v8 := cell_of_block bf 3
    have v9 := cell_of_block bf 4
    clear z0 z1 z2 z3 z4 ka bf HK2 hz hpos hpd
    revert KV v0 v1 v2 v3 v4 v5 v6 v7 v8 v9
    generalize w2.alloc (.cells #[.int .i64 (f1 : Nat), .int .i64 (placeOf (f1, f2) : Nat), .string ⟨#[]⟩, .int .i64 0, .int .i64 0] 32) = V
    intro KV v0 v1 v2 v3 v4 v5 v6 v7 v8 v9
    simp at v5 v6 v7 v8 v9
    go_region_held3 (fun X => X.cell? ⟨w1.heap.size, 0, none⟩ = some (.int .i64 (f1 : Nat)) ∧ X.cell? ⟨w1.heap.size, 1, none⟩ = some (.int .i64 (placeOf (f1, f2) : Nat)) ∧ X.cell? ⟨w1.heap.size, 2, none⟩ = some (.string ⟨#[]⟩) ∧ X.cell? ⟨w1.heap.size, 3, none⟩ = some (.int .i64 0) ∧ X.cell? ⟨w1.heap.size, 4, none⟩ = some (.int .i64 0) ∧ X.cell? ⟨w2.heap.size, 0, none⟩ = some (.int .i64 (f1 : Nat)) ∧ X.cell? ⟨w2.heap.size, 1, none⟩ = some (.int .i64 (placeOf (f1, f2) : Nat)) ∧ X.cell? ⟨w2.heap.size, 2, none⟩ = some (.string ⟨#[]⟩) ∧ X.cell? ⟨w2.heap.size, 3, none⟩ = some (.int .i64 0) ∧ X.cell? ⟨w2.heap.size, 4, none⟩ = some (.int .i64 0) ∧ Keeps [] V X)
      (first | exact ⟨(Keeps.refl [] V).drew.cellSome v0 (by simp), (Keeps.refl [] V).drew.cellSome v1 (by simp), (Keeps.refl [] V).drew.cellSome v2 (by simp), (Keeps.refl [] V).drew.cellSome v3 (by simp), (Keeps.refl [] V).drew.cellSome v4 (by simp), (Keeps.refl [] V).drew.cellSome v5 (by simp), (Keeps.refl [] V).drew.cellSome v6 (by simp), (Keeps.refl [] V).drew.cellSome v7 (by simp), (Keeps.refl [] V).drew.cellSome v8 (by simp), (Keeps.refl [] V).drew.cellSome v9 (by simp), (Keeps.refl [] V).drew⟩ | exact ⟨hkb.cellSome v0 (by simp), hkb.cellSome v1 (by simp), hkb.cellSome v2 (by simp), hkb.cellSome v3 (by simp), hkb.cellSome v4 (by simp), hkb.cellSome v5 (by simp), hkb.cellSome v6 (by simp), hkb.cellSome v7 (by simp), hkb.cellSome v8 (by simp), hkb.cellSome v9 (by simp), hkb⟩)
      (first | (go_at_call 10; refine (said_any _ _ _ _ _ _).mono ?_; rintro e Wb ⟨rfl, hzb⟩; have hkb := Keeps.trans0 (show Keeps [] V _ by first | exact (Keeps.refl [] V).drew | assumption) hzb; clear hzb))
    all_goals
      go_wp2
      go_ret
      exact ⟨by simp, KV.out.trans0 (by assumption)⟩
  | ok q =>
    rw [hr] at h
    obtain rfl := h
    have hok := readTyp_ok hr
    have HR := Lib.hid hr
    have HOK := Lib.hid hok
    clear hr hok
    go_wp2_with fail
    refine (rparsed_any _ s).mono ?_
    rintro e w2 ⟨hk, h⟩
    rw [HR.out] at h
    obtain ⟨b, sv, rfl, hx, hown⟩ := h
    obtain ⟨ad, cap, rfl, _⟩ := ownsRow_shape hown
    have hlen := (varsL_len q.1 []).2
    rw [HOK.out.vars] at hlen
    simp only [List.length_nil, List.length_range, Nat.zero_add] at hlen
    have hsz := HOK.out.size
    have hk3 := (Keeps.refl [] w2).alloc (.cells #[.int .i64 0, .int .i64 0, .string ⟨#[]⟩, .int .i64 0, .int .i64 0] 32)
    have HT := Lib.hid (rcanon_any q.1 q.2.length HOK.out.vars (by omega) hsz _ _ (hk3.kr.ty hx))
    have HK2 := Lib.hid hk
    have hbg := hk.some (block_alloc w1 _) (by simp)
    have z0 : w2.cell? ⟨w1.heap.size, 0, none⟩ = some (.int .i64 0) := cell_of_block hbg 0
    have hz : w1.heap.size < w2.heap.size := lt_of_some hbg
    clear hk hx hbg hown hk3
    go_wp2_with fail
    refine HT.out.mono ?_
    rintro e w3 ⟨rfl, hk⟩
    have K3 := Lib.hid ((K1.out.trans0 (((Keeps.refl [] w1).alloc _).trans0 HK2.out)).trans0 (((Keeps.refl [] w2).alloc _).trans0 hk))
    clear hk
    go_wp2
    go_ret
    exact ⟨by simp, K3.out⟩
end Go.Proofs.YtpbplpnifjbkoaaDoor

/-
  Which of the listed texts are expressions and types, and where others are wrong. No program in sight.
-/
import Derived.Test.YtpbplpnifjbkoaaGreatDoorPt
import Derived.Test.YtpbplpnifjbkoaaGreatDoorKinf
import Derived.Deep.RegionLaw
import Derived.Test.YtpbplpnifjbkoaaGreatDoorKeepx
namespace Go.Proofs.YtpbplpnifjbkoaaGreatDoor

def longP : Bytes := 120 :: List.replicate 299 32
def deepP : Nat → Bytes
  | 0 => [120]
  | n + 1 => [102, 40] ++ deepP n ++ [41]
def faultsP : List (Bytes × Int × Int) := [
  (longP, -1, -1),
  (deepP 39, -1, 1),
  (deepP 40, -2, 1),
  ([], 0, 0),
  ([120, 32, 121], -1, 2),
  ([49], -1, 0),
  ([120, 49], -1, -1),
  ([88], 0, 0),
  ([97, 98, 99, 100, 101, 102, 103, 104], -1, -1),
  ([97, 98, 99, 100, 101, 102, 103, 104, 105], 0, 0),
  ([49, 50, 51, 52, 53, 54, 55, 56], -1, 0),
  ([49, 50, 51, 52, 53, 54, 55, 56, 57], 0, 0),
  ([40, 120, 41], -1, -1),
  ([40, 41], 1, 1),
  ([40, 120, 44, 32, 121, 41], -1, -1),
  ([40, 120, 44, 32, 121, 44, 32, 122, 41], 5, 5),
  ([40, 120], 2, 2),
  ([120, 41], 1, 1),
  ([120, 44], 1, 1),
  ([105, 110, 116], -1, -1),
  ([91, 105, 110, 116, 93], 0, -1),
  ([91, 93], 0, 1),
  ([91, 97], 0, 2),
  ([97, 32, 45, 62, 32, 98], 2, -1),
  ([97, 32, 45, 32, 98], 2, 2),
  ([97, 32, 45, 62], 2, 4),
  ([45, 62, 32, 97], 0, 0),
  ([40, 97, 32, 45, 62, 32, 98, 41, 32, 45, 62, 32, 91, 99, 93], 3, -1),
  ([97, 32, 45, 62, 32, 40, 98, 44, 32, 91, 98, 111, 111, 108, 93, 41, 32, 45, 62, 32, 99], 2, -1),
  ([102, 117, 110], 3, -1),
  ([102, 117, 110, 32, 120], 5, 4),
  ([102, 117, 110, 32, 120, 32, 45, 62, 32], 9, 4),
  ([102, 117, 110, 32, 49, 32, 45, 62, 32, 120], 4, 4),
  ([102, 117, 110, 32, 108, 101, 116, 32, 45, 62, 32, 120], 4, 4),
  ([102, 117, 110, 32, 120, 32, 45, 62, 32, 120], -1, 4),
  ([108, 101, 116], 3, -1),
  ([108, 101, 116, 32, 120], 5, 4),
  ([108, 101, 116, 32, 120, 32, 61, 32, 49], 9, 4),
  ([108, 101, 116, 32, 120, 32, 61, 32, 49, 32, 105, 110], 12, 4),
  ([108, 101, 116, 32, 120, 32, 61, 32, 49, 32, 105, 110, 32, 120], -1, 4),
  ([108, 101, 116, 32, 114, 101, 99], 7, 4),
  ([108, 101, 116, 32, 114, 101, 99, 32, 102, 32, 61, 32, 49, 32, 97, 110, 100, 32, 102, 32, 61, 32, 50, 32, 105, 110, 32, 49], 18, 4),
  ([108, 101, 116, 32, 114, 101, 99, 32, 102, 32, 61, 32, 49, 32, 97, 110, 100, 32, 103, 32, 61, 32, 50, 32, 105, 110, 32, 49], -1, 4),
  ([108, 101, 116, 32, 102, 32, 61, 32, 49, 32, 97, 110, 100, 32, 103, 32, 61, 32, 50, 32, 105, 110, 32, 49], 10, 4),
  ([114, 101, 99], 0, -1),
  ([105, 102, 32, 120, 32, 116, 104, 101, 110, 32, 121], 11, 3),
  ([105, 102, 32, 120, 32, 116, 104, 101, 110, 32, 121, 32, 101, 108, 115, 101], 16, 3),
  ([105, 102, 32, 120, 32, 116, 104, 101, 110, 32, 121, 32, 101, 108, 115, 101, 32, 122], -1, 3),
  ([102, 32, 102, 117, 110, 32, 120, 32, 45, 62, 32, 120], 2, 2),
  ([102, 32, 105, 102], 2, 2),
  ([120, 32, 61, 32, 121], 2, 2),
  ([120, 9, 121], 1, 1),
  ([120, 10, 32, 121], -1, 3),
  ([120, 32, 91, 121, 93], 2, 2),
  ([102, 32, 49, 120], -1, 2)]
/-- A text's answer: what is given, the error's number, its place. -/
def showR (s : Bytes) : Bytes × Nat × Nat := match readExp s with
  | .ok x => (textE x, 0, 0)
  | .error f => ([], f.1, if f.1 = 2 then f.2 else 0)
def canonR (s : Bytes) : Bytes × Nat × Nat := match readTyp s with
  | .ok q => (canon q.1, 0, 0)
  | .error f => ([], f.1, if f.1 = 2 then f.2 else 0)
def wrongP (r : Bytes × Nat × Nat) (at_ : Int) : Bool :=
  if at_ = -1 then decide (r.2.1 = 0) && decide (r.1 ≠ [])
  else if at_ = -2 then decide (r.1 = []) && decide (r.2.1 = 3)
  else decide (r.1 = []) && decide (r.2.1 = 2) && decide ((r.2.2 : Int) = at_)
theorem faults_all : (faultsP.all fun x => wrongP (showR x.1) x.2.1 && wrongP (canonR x.1) x.2.2) = true := by decide +kernel
/-- Three hundred and one x. -/
def xsP : Bytes := List.replicate 301 120
theorem xs_exp : readExp xsP = .error (1, 0) := by
  unfold readExp
  rw [if_pos (by decide +kernel)]
theorem xs_typ : readTyp xsP = .error (1, 0) := by
  unfold readTyp
  rw [if_pos (by decide +kernel)]
end Go.Proofs.YtpbplpnifjbkoaaGreatDoor

namespace Go.Proofs.YtpbplpnifjbkoaaGreatDoor
open Go.RowKit

set_option maxRecDepth 100000 in
set_option maxHeartbeats 4000000 in
theorem wrong_any (what at_ inner ia : Nat) (s : ByteArray) (p : Int) (t : Bytes) (w : World) :
    Calls Tryz.prog 15 #[faultV what at_ s inner ia, .int .i64 p, .string (bs t)] w fun e w' => e = .returned (.bool (wrongP (t, what, at_) p)) ∧ Keeps [] w w' := by
  have q0 : ((bs t).toList == []) = decide (t = []) := by rw [ByteArray.toList_eq, bs_data]; exact Bool.eq_iff_iff.2 (by simp)
  have hi : ∀ x y : Nat, ((x : Int) == (y : Int)) = decide (x = y) := fun x y => by
    by_cases h : x = y
    · simp [h]
    · have h' : ¬ ((x : Int) = (y : Int)) := by omega
      simp [h, h']
  by_cases h1 : p = -1
  · subst h1
    by_cases hq : what = 0
    · subst hq
      go_enter Tryz.func15, Tryz.ntmps15
      go_wp2
      all_goals
        go_ret
        refine ⟨?_, (Keeps.refl [] w).alloc _⟩
        simp_all [wrongP]
    · have hq' : ¬ ((what : Int) = 0) := by omega
      go_enter Tryz.func15, Tryz.ntmps15
      go_wp2
      all_goals
        go_ret
        refine ⟨?_, (Keeps.refl [] w).alloc _⟩
        simp_all [wrongP]
  · by_cases h2 : p = -2
    · subst h2
      by_cases hq : what = 3
      · subst hq
        go_enter Tryz.func15, Tryz.ntmps15
        go_wp2
        all_goals
          go_ret
          refine ⟨?_, (Keeps.refl [] w).alloc _⟩
          simp_all [wrongP]
      · have hq' : ¬ ((what : Int) = 3) := by omega
        go_enter Tryz.func15, Tryz.ntmps15
        go_wp2
        all_goals
          go_ret
          refine ⟨?_, (Keeps.refl [] w).alloc _⟩
          simp_all [wrongP]
    · by_cases hq : what = 2
      · subst hq
        go_enter Tryz.func15, Tryz.ntmps15
        go_wp2
        all_goals
          go_ret
          refine ⟨?_, (Keeps.refl [] w).alloc _⟩
          first
            | (simp_all [wrongP]; done)
            | (simp_all [wrongP]
               exact Bool.eq_iff_iff.2 (by simp))
      · have hq' : ¬ ((what : Int) = 2) := by omega
        go_enter Tryz.func15, Tryz.ntmps15
        go_wp2
        all_goals
          go_ret
          refine ⟨?_, (Keeps.refl [] w).alloc _⟩
          simp_all [wrongP]

theorem deepP_len (n : Nat) : (deepP n).length = 3 * n + 1 := by
  induction n with
  | zero => rfl
  | succ n ih => simp only [deepP, List.length_append, ih, List.length_cons, List.length_nil]; omega
theorem oper_wp_val {P : Program} {o : Oper} {a : Act} {w w' : World} {next : Act → World → Prop} {Q : Exit → Act → World → Prop} {v : Value} (h : (execOp a.eval o).run P w = .ok (.value v) w') (k : next (a.put o.dst v) w') : o.wp P a w next Q := by
  unfold Oper.wp
  rw [h]
  exact k
def faultsQ (LB DB DC : ByteArray) : List (ByteArray × Int × Int) := [(LB, -1, -1), (DB, -1, 1), (DC, -2, 1), (⟨#[]⟩, 0, 0), (⟨#[120, 32, 121]⟩, -1, 2), (⟨#[49]⟩, -1, 0), (⟨#[120, 49]⟩, -1, -1), (⟨#[88]⟩, 0, 0), (⟨#[97, 98, 99, 100, 101, 102, 103, 104]⟩, -1, -1), (⟨#[97, 98, 99, 100, 101, 102, 103, 104, 105]⟩, 0, 0), (⟨#[49, 50, 51, 52, 53, 54, 55, 56]⟩, -1, 0), (⟨#[49, 50, 51, 52, 53, 54, 55, 56, 57]⟩, 0, 0), (⟨#[40, 120, 41]⟩, -1, -1), (⟨#[40, 41]⟩, 1, 1), (⟨#[40, 120, 44, 32, 121, 41]⟩, -1, -1), (⟨#[40, 120, 44, 32, 121, 44, 32, 122, 41]⟩, 5, 5), (⟨#[40, 120]⟩, 2, 2), (⟨#[120, 41]⟩, 1, 1), (⟨#[120, 44]⟩, 1, 1), (⟨#[105, 110, 116]⟩, -1, -1), (⟨#[91, 105, 110, 116, 93]⟩, 0, -1), (⟨#[91, 93]⟩, 0, 1), (⟨#[91, 97]⟩, 0, 2), (⟨#[97, 32, 45, 62, 32, 98]⟩, 2, -1), (⟨#[97, 32, 45, 32, 98]⟩, 2, 2), (⟨#[97, 32, 45, 62]⟩, 2, 4), (⟨#[45, 62, 32, 97]⟩, 0, 0), (⟨#[40, 97, 32, 45, 62, 32, 98, 41, 32, 45, 62, 32, 91, 99, 93]⟩, 3, -1), (⟨#[97, 32, 45, 62, 32, 40, 98, 44, 32, 91, 98, 111, 111, 108, 93, 41, 32, 45, 62, 32, 99]⟩, 2, -1), (⟨#[102, 117, 110]⟩, 3, -1), (⟨#[102, 117, 110, 32, 120]⟩, 5, 4), (⟨#[102, 117, 110, 32, 120, 32, 45, 62, 32]⟩, 9, 4), (⟨#[102, 117, 110, 32, 49, 32, 45, 62, 32, 120]⟩, 4, 4), (⟨#[102, 117, 110, 32, 108, 101, 116, 32, 45, 62, 32, 120]⟩, 4, 4), (⟨#[102, 117, 110, 32, 120, 32, 45, 62, 32, 120]⟩, -1, 4), (⟨#[108, 101, 116]⟩, 3, -1), (⟨#[108, 101, 116, 32, 120]⟩, 5, 4), (⟨#[108, 101, 116, 32, 120, 32, 61, 32, 49]⟩, 9, 4), (⟨#[108, 101, 116, 32, 120, 32, 61, 32, 49, 32, 105, 110]⟩, 12, 4), (⟨#[108, 101, 116, 32, 120, 32, 61, 32, 49, 32, 105, 110, 32, 120]⟩, -1, 4), (⟨#[108, 101, 116, 32, 114, 101, 99]⟩, 7, 4), (⟨#[108, 101, 116, 32, 114, 101, 99, 32, 102, 32, 61, 32, 49, 32, 97, 110, 100, 32, 102, 32, 61, 32, 50, 32, 105, 110, 32, 49]⟩, 18, 4), (⟨#[108, 101, 116, 32, 114, 101, 99, 32, 102, 32, 61, 32, 49, 32, 97, 110, 100, 32, 103, 32, 61, 32, 50, 32, 105, 110, 32, 49]⟩, -1, 4), (⟨#[108, 101, 116, 32, 102, 32, 61, 32, 49, 32, 97, 110, 100, 32, 103, 32, 61, 32, 50, 32, 105, 110, 32, 49]⟩, 10, 4), (⟨#[114, 101, 99]⟩, 0, -1), (⟨#[105, 102, 32, 120, 32, 116, 104, 101, 110, 32, 121]⟩, 11, 3), (⟨#[105, 102, 32, 120, 32, 116, 104, 101, 110, 32, 121, 32, 101, 108, 115, 101]⟩, 16, 3), (⟨#[105, 102, 32, 120, 32, 116, 104, 101, 110, 32, 121, 32, 101, 108, 115, 101, 32, 122]⟩, -1, 3), (⟨#[102, 32, 102, 117, 110, 32, 120, 32, 45, 62, 32, 120]⟩, 2, 2), (⟨#[102, 32, 105, 102]⟩, 2, 2), (⟨#[120, 32, 61, 32, 121]⟩, 2, 2), (⟨#[120, 9, 121]⟩, 1, 1), (⟨#[120, 10, 32, 121]⟩, -1, 3), (⟨#[120, 32, 91, 121, 93]⟩, 2, 2), (⟨#[102, 32, 49, 120]⟩, -1, 2)]
def faultsA (LB DB DC : ByteArray) : Array Value := ((faultsQ LB DB DC).flatMap fun x => [.string x.1, .int .i64 x.2.1, .int .i64 x.2.2]).toArray
set_option maxRecDepth 100000 in
set_option maxHeartbeats 4000000 in
theorem faults_any (w : World) : Calls Tryz.prog 11 #[] w fun e w' => ∃ b : Nat, e = .returned (.slice (some ⟨b, 0, none⟩) 55 55) ∧ w'.heap[b]? = some (.cells (faultsA (bs longP) (bs (deepP 39)) (bs (deepP 40))) 26 (0, 0)) ∧ Keeps [] w w' := by
  go_enter Tryz.func11, Tryz.ntmps11
  go_wp2_with fail
  go_loopg [1] 299 (fun gg s wx => ∃ j : Nat, gg = 300 - j ∧ 1 ≤ j ∧ j ≤ 300 ∧ s = .string (bs (120 :: List.replicate (j - 1) 32)) ∧ Keeps [] w wx)
  case atStart => exact ⟨1, rfl, by omega, by omega, rfl, Keeps.refl _ _⟩
  case round =>
    obtain ⟨j, hg, hj1, hj, rfl, hk⟩ := hrel
    have HGG := Lib.hid hg
    have HK := Lib.hid hk
    clear hg hk
    have hz : (bs (120 :: List.replicate (j - 1) 32)).size = j := by rw [bs_size]; simp; omega
    by_cases hlt : j < 300
    · have hdl : decide ((j : Int) < 300) = true := by simp; omega
      have s1 : ¬ 9223372036854775807 < j + 1 := by omega
      go_wp2_with fail
      go_roundg (300 - (j + 1))
      case measure => have := HGG.out; omega
      case rel =>
        refine ⟨j + 1, rfl, by omega, by omega, ?_, HK.out⟩
        refine congrArg Value.string (ba_ext ?_)
        obtain ⟨i, rfl⟩ : ∃ i, j = i + 1 := ⟨j - 1, by omega⟩
        simp [ByteArray.data_append, Array.toList_append, bs_data, List.replicate_succ']
    · obtain rfl : j = 300 := by omega
      obtain ⟨LB, hLB⟩ : ∃ LB, LB = bs (120 :: List.replicate (300 - 1) 32) := ⟨_, rfl⟩
      rw [← hLB] at hz ⊢
      have HLB := Lib.hid hLB
      clear hLB
      have hdl : decide ((LB.size : Int) < 300) = false := by simp; omega
      go_wp2_with fail
      go_loopg [2, 8] 39 (fun gg s i wx => ∃ j : Nat, gg = 39 - j ∧ i = .int .i64 j ∧ j ≤ 39 ∧ s = .string (bs (deepP j)) ∧ Keeps [] w wx)
      case atStart => exact ⟨0, rfl, rfl, by omega, rfl, HK.out⟩
      case round =>
        obtain ⟨j, hg, rfl, hj, rfl, hk⟩ := hrel
        have HGD := Lib.hid hg
        have HKD := Lib.hid hk
        clear hg hk
        have hzd : (bs (deepP j)).size = 3 * j + 1 := by rw [bs_size, deepP_len]
        by_cases hlt2 : j < 39
        · have hdl2 : decide ((j : Int) < 39) = true := by simp; omega
          have s1 : ¬ 9223372036854775807 < 2 + (bs (deepP j)).size := by omega
          have s2 : ¬ 9223372036854775807 < 2 + (bs (deepP j)).size + 1 := by omega
          go_wp2_with fail
          go_roundg (39 - (j + 1))
          case measure => have := HGD.out; omega
          case rel =>
            refine ⟨j + 1, rfl, by go_num, by omega, ?_, HKD.out⟩
            refine congrArg Value.string (ba_ext ?_)
            simp [ByteArray.data_append, Array.toList_append, bs_data, deepP]
        · obtain rfl : j = 39 := by omega
          obtain ⟨DB, hDB⟩ : ∃ DB, DB = bs (deepP 39) := ⟨_, rfl⟩
          rw [← hDB] at hzd ⊢
          have HDB := Lib.hid hDB
          clear hDB
          have hdl2 : decide ((39 : Int) < 39) = false := by simp
          have s1 : ¬ 9223372036854775807 < 2 + DB.size := by omega
          have s2 : ¬ 9223372036854775807 < 2 + DB.size + 1 := by omega
          go_wp2_with fail
          refine oper_wp_val (v := .slice (some ⟨wr.heap.size, 0, none⟩) 55 55) (w' := wr.alloc (.cells (faultsA LB DB (⟨#[102, 40]⟩ ++ DB ++ ⟨#[41]⟩)) 26)) (by kernel_rfl) ?_
          have hdc : (⟨#[102, 40]⟩ : ByteArray) ++ DB ++ ⟨#[41]⟩ = bs (deepP 40) := by
            rw [HDB.out]
            refine ba_ext ?_
            simp only [ByteArray.data_append, Array.toList_append, bs_data, deepP]
          have hlb : LB = bs longP := HLB.out
          have HBA := Lib.hid (block_alloc wr (.cells (faultsA LB DB (⟨#[102, 40]⟩ ++ DB ++ ⟨#[41]⟩)) 26))
          have HDC := Lib.hid hdc
          have HLB2 := Lib.hid hlb
          clear hdc hlb
          go_wp2
          go_ret
          refine ⟨wr.heap.size, rfl, ?_, HKD.out.alloc _⟩
          rw [← HDC.out, ← HDB.out, ← HLB2.out]
          exact HBA.out
end Go.Proofs.YtpbplpnifjbkoaaGreatDoor

namespace Go.Proofs.YtpbplpnifjbkoaaGreatDoor
open Go.RowKit

theorem show_R {w : World} {s : Bytes} {e : Ending} {w' : World} (h : PlainShowPost w (readExp s) e w') : Keeps [] w w' ∧ e = .returned (.tuple #[.string (bs (showR s).1), faultV (showR s).2.1 (showR s).2.2 ⟨#[]⟩ 0 0]) := by
  refine ⟨h.1, ?_⟩
  rw [h.2]
  unfold showR
  cases readExp s with
  | ok x => rfl
  | error f => rfl
theorem canon_R {w : World} {s : Bytes} {e : Ending} {w' : World} (h : CanonK w (readTyp s) e w') : Keeps [] w w' ∧ e = .returned (.tuple #[.string (bs (canonR s).1), faultV (canonR s).2.1 (canonR s).2.2 ⟨#[]⟩ 0 0]) := by
  refine ⟨h.1, ?_⟩
  rw [h.2]
  unfold canonR
  cases readTyp s with
  | ok x => rfl
  | error f => rfl
section
variable {a : Nat → Addr} {B : Nat}
theorem pshow_any (w : World) (hG : Gl a B w) (s : Bytes) : Calls Tryz.prog 13 #[.string (bs s)] w fun e w' => Keeps [] w w' ∧ e = .returned (.tuple #[.string (bs (showR s).1), faultV (showR s).2.1 (showR s).2.2 ⟨#[]⟩ 0 0]) := by
  refine (plain_show w hG (bs s)).mono fun e w' h => ?_
  rw [bs_data] at h
  exact show_R h
theorem pcanon_any (w : World) (hG : Gl a B w) (s : Bytes) : Calls Tryz.prog 14 #[.string (bs s)] w fun e w' => Keeps [] w w' ∧ e = .returned (.tuple #[.string (bs (canonR s).1), faultV (canonR s).2.1 (canonR s).2.2 ⟨#[]⟩ 0 0]) := by
  refine (plain_canonK w hG (bs s)).mono fun e w' h => ?_
  rw [bs_data] at h
  exact canon_R h
def noRecS (src : Bytes) : Bool := match readExp src with
  | .ok x => noRec x
  | .error _ => true
theorem hof_norec {src : Bytes} (h : noRecS src = true) {fuel : Nat} : ∀ x, readExp src = .ok x → ∀ (L : Inhabited Low) (Br : Inhabited Bar) (lo hi gb ab : Nat), @Rig L a B lo hi gb ab [] (fun _ _ => True) → @OfOK L Br a B lo hi gb ab fuel 400 .nilFunc none [] (fun _ _ => True) x := by
  intro x hx L Br lo hi gb ab R
  unfold noRecS at h
  rw [hx] at h
  exact @of_norec L Br a B lo hi gb ab fuel 400 .nilFunc none [] (fun _ _ => True) R x h
theorem envF_mem (l : List (Bytes × Bytes)) (x : Bytes) : x ∈ l.map (·.1) ↔ (envF l x).isSome = true := by
  have h : ∀ (l : List (Bytes × Bytes)) (f : Bytes → Option Bytes), ((l.foldl (fun f p => fun y => if y = p.1 then some p.2 else f y) f) x).isSome = true ↔ (x ∈ l.map (·.1) ∨ (f x).isSome = true) := by
    intro l
    induction l with
    | nil => intro f; simp
    | cons p r ih =>
      intro f
      simp only [List.foldl_cons, ih, List.map_cons, List.mem_cons]
      by_cases hx : x = p.1
      · simp [hx]
      · simp [hx]
  rw [envF, h]
  simp
/-- How such an Infer ends. -/
def InfEnd (w : World) (t : ByteArray) (what at_ : Int) (s : ByteArray) (inner ia : Int) (e : Ending) (w' : World) : Prop := (∃ b, e = .returned (.tuple #[.string t, faultV what at_ s inner ia, .bool b])) ∧ Keeps [] w w'
theorem pinfer_nil (w : World) (hG : Gl a B w) {src : Bytes} (h : noRecS src = true) (fuel : Int) (hfu : -9223372036854775808 ≤ fuel ∧ fuel ≤ 9223372036854775807) {r : Bytes × FaultR × List Told} (hr4 : (r.2.1.what ≠ 4 ∧ r.2.1.what ≠ 5) ∨ r.2.1.s ≠ []) (hr : inferP 400 src [] fuel none = some r) :
    Calls Tryz.prog 16 #[.string (bs src), .slice none 0 0, .slice none 0 0, .int .i64 fuel] w fun e w' => (∃ b, e = .returned (.tuple #[.string (bs r.1), faultV r.2.1.what r.2.1.at_ (bs r.2.1.s) r.2.1.inner r.2.1.innerAt, .bool b])) ∧ Keeps [] w w' :=
  plain_infer_any hG src (ns := []) (ts := []) ⟨none, 0, rfl, fun j x h => by simp at h⟩ ⟨none, 0, rfl, fun j x h => by simp at h⟩ (by simp) (by simp) (ks := []) (by simp [ksOf]) List.nodup_nil (fun x => by simp [envF]) (by simp) (by simp) fuel hfu (hof_norec h) hr4 hr
theorem inf_xs (w : World) (hG : Gl a B w) : Calls Tryz.prog 16 #[.string (bs xsP), .slice none 0 0, .slice none 0 0, .int .i64 0] w (InfEnd w ⟨#[]⟩ 1 0 ⟨#[]⟩ 0 0) :=
  pinfer_nil w hG (r := ([], ⟨1, 0, [], 0, 0⟩, [])) (by unfold noRecS; rw [xs_exp]) 0 (by omega) (.inl ⟨by simp, by simp⟩) (by simp only [inferP, xs_exp]; rfl)
theorem inf_x0 (w : World) (hG : Gl a B w) : Calls Tryz.prog 16 #[.string ⟨#[120]⟩, .slice none 0 0, .slice none 0 0, .int .i64 0] w (InfEnd w ⟨#[]⟩ 6 0 ⟨#[]⟩ 0 0) :=
  pinfer_nil w hG (src := [120]) (r := ([], ⟨6, 0, [], 0, 0⟩, [])) (by decide +kernel) 0 (by omega) (.inl ⟨by simp, by simp⟩) (by kernel_rfl)
theorem inf_x13 (w : World) (hG : Gl a B w) : Calls Tryz.prog 16 #[.string ⟨#[120]⟩, .slice none 0 0, .slice none 0 0, .int .i64 13] w (InfEnd w ⟨#[]⟩ 6 0 ⟨#[]⟩ 0 0) :=
  pinfer_nil w hG (src := [120]) (r := ([], ⟨6, 0, [], 0, 0⟩, [])) (by decide +kernel) 13 (by omega) (.inl ⟨by simp, by simp⟩) (by kernel_rfl)
theorem inf_1 (w : World) (hG : Gl a B w) : Calls Tryz.prog 16 #[.string ⟨#[49]⟩, .slice none 0 0, .slice none 0 0, .int .i64 12] w (InfEnd w ⟨#[105, 110, 116]⟩ 0 0 ⟨#[]⟩ 0 0) :=
  pinfer_nil w hG (src := [49]) (r := ([105, 110, 116], ⟨0, 0, [], 0, 0⟩, [])) (by decide +kernel) 12 (by omega) (.inl ⟨by simp, by simp⟩) (by kernel_rfl)
/-- Infer of y by names and types that lie in two blocks. -/
theorem pinfer_two (w : World) (hG : Gl a B w) {b1 b2 : Nat} {n : Nat} {c1 c2 : Array Value} {ns ts ks : List Bytes} (h1 : w.heap[b1]? = some (.cells c1 9 (0, 0))) (h2 : w.heap[b2]? = some (.cells c2 9 (0, 0))) (e1 : c1.toList = ns.map sV) (e2 : c2.toList = ts.map sV) (l1 : ns.length = n) (l2 : ts.length = n) (hn : n ≤ 10) (hs : ∀ x ∈ ns, x.length ≤ 1000)
    (hks : ksOf ks = ks) (hnd : ks.Nodup) (hp : ks.Perm ((ns.zip ts).map (·.1))) (hl : ∀ x ∈ ks, x.length ≤ 1000) (hk : ks.length ≤ 150) {r : Bytes × FaultR × List Told} (hr4 : (r.2.1.what ≠ 4 ∧ r.2.1.what ≠ 5) ∨ r.2.1.s ≠ []) (hr : inferP 400 [121] (pairsF (envF (ns.zip ts)) ks) 1 none = some r) :
    Calls Tryz.prog 16 #[.string ⟨#[121]⟩, .slice (some ⟨b1, 0, none⟩) n n, .slice (some ⟨b2, 0, none⟩) n n, .int .i64 1] w fun e w' => (∃ b, e = .returned (.tuple #[.string (bs r.1), faultV r.2.1.what r.2.1.at_ (bs r.2.1.s) r.2.1.inner r.2.1.innerAt, .bool b])) ∧ Keeps [] w w' := by
  have s1 := srow_block (cap := n) h1 e1
  have s2 := srow_block (cap := n) h2 e2
  rw [l1] at s1
  rw [l2] at s2
  exact plain_infer_any hG [121] s1 s2 (by omega) hs hks hnd (fun x => by rw [← envF_mem]; exact hp.mem_iff) hk hl 1 (by omega) (hof_norec (by decide +kernel)) hr4 hr
theorem inf_b (w : World) (hG : Gl a B w) {b1 b2 : Nat} (h1 : w.heap[b1]? = some (.cells #[.string ⟨#[120]⟩, .string ⟨#[98]⟩, .string ⟨#[99]⟩] 9 (0, 0))) (h2 : w.heap[b2]? = some (.cells #[.string ⟨#[105, 110, 116]⟩, .string ⟨#[40]⟩, .string ⟨#[41]⟩] 9 (0, 0))) :
    Calls Tryz.prog 16 #[.string ⟨#[121]⟩, .slice (some ⟨b1, 0, none⟩) 3 3, .slice (some ⟨b2, 0, none⟩) 3 3, .int .i64 1] w (InfEnd w ⟨#[]⟩ 5 0 ⟨#[98]⟩ 2 1) :=
  pinfer_two w hG (n := 3) (ns := [[120], [98], [99]]) (ts := [[105, 110, 116], [40], [41]]) (ks := [[98], [99], [120]]) h1 h2 rfl rfl rfl rfl (by omega) (by decide +kernel) (by unfold ksOf; refine List.mergeSort_of_pairwise ?_; decide +kernel) (by decide +kernel) (by decide +kernel) (by decide +kernel) (by decide) (r := ([], ⟨5, 0, [98], 2, 1⟩, [])) (.inr (by simp)) (by kernel_rfl)
theorem inf_let (w : World) (hG : Gl a B w) {b1 b2 : Nat} (h1 : w.heap[b1]? = some (.cells #[.string ⟨#[108, 101, 116]⟩] 9 (0, 0))) (h2 : w.heap[b2]? = some (.cells #[.string ⟨#[105, 110, 116]⟩] 9 (0, 0))) :
    Calls Tryz.prog 16 #[.string ⟨#[121]⟩, .slice (some ⟨b1, 0, none⟩) 1 1, .slice (some ⟨b2, 0, none⟩) 1 1, .int .i64 1] w (InfEnd w ⟨#[]⟩ 5 0 ⟨#[108, 101, 116]⟩ 0 0) :=
  pinfer_two w hG (n := 1) (ns := [[108, 101, 116]]) (ts := [[105, 110, 116]]) (ks := [[108, 101, 116]]) h1 h2 rfl rfl rfl rfl (by omega) (by decide +kernel) (by simp [ksOf]) (by decide +kernel) (by decide +kernel) (by decide +kernel) (by decide) (r := ([], ⟨5, 0, [108, 101, 116], 0, 0⟩, [])) (.inr (by simp)) (by kernel_rfl)
theorem read_y : ∃ x, readExp [121] = .ok x := by
  cases h : readExp [121] with
  | ok x => exact ⟨x, rfl⟩
  | error f =>
    have : (match readExp [121] with | .ok _ => true | .error _ => false) = true := by decide +kernel
    rw [h] at this
    cases this
theorem inf_long (w : World) (hG : Gl a B w) {b1 b2 : Nat} (h1 : w.heap[b1]? = some (.cells #[.string ⟨#[120]⟩] 9 (0, 0))) (h2 : w.heap[b2]? = some (.cells #[.string (bs xsP)] 9 (0, 0))) :
    Calls Tryz.prog 16 #[.string ⟨#[121]⟩, .slice (some ⟨b1, 0, none⟩) 1 1, .slice (some ⟨b2, 0, none⟩) 1 1, .int .i64 1] w (InfEnd w ⟨#[]⟩ 5 0 ⟨#[120]⟩ 1 0) := by
  refine pinfer_two w hG (n := 1) (ns := [[120]]) (ts := [xsP]) (ks := [[120]]) h1 h2 rfl rfl rfl rfl (by omega) (by decide +kernel) (by simp [ksOf]) (by decide +kernel) (by simp) (by decide +kernel) (by decide) (r := ([], ⟨5, 0, [120], 1, 0⟩, [])) (.inr (by simp)) ?_
  have hp : pairsF (envF ([[120]].zip [xsP])) [[120]] = [([120], xsP)] := by simp [pairsF, envF]
  rw [hp]
  obtain ⟨x, hx⟩ := read_y
  have hn : isName [120] = true := by decide +kernel
  simp only [inferP, hx, envOf, hn, if_true, xs_typ]
  rfl
theorem pinst_err (w : World) (hG : Gl a B w) {s t : Bytes} {f : Nat × Nat} (h : instOf s t = .error f) : Calls Tryz.prog 17 #[.string (bs s), .string (bs t)] w fun e w' =>
    e = .returned (.tuple #[.slice none 0 0, .slice none 0 0, .bool true, faultV f.1 (placeOf f) ⟨#[]⟩ 0 0]) ∧ Keeps [] w w' := by
  refine (plain_instK w hG (bs s) (bs t)).mono fun e w' hp => ?_
  rw [bs_data, bs_data, h] at hp
  exact ⟨hp.2, hp.1⟩
theorem pinst_ok (w : World) (hG : Gl a B w) {s t : Bytes} {q : List Bytes × List Bytes × List (Nat × Ty)} (h : instOf s t = .ok q) {ns ts : List Bytes} (hn : ksOf q.1 = ns) (ht : (ksOf q.1).map (textOf q.1 q.2.1 q.2.2) = ts) : Calls Tryz.prog 17 #[.string (bs s), .string (bs t)] w fun e w' =>
    ∃ sn st, e = .returned (.tuple #[sn, st, .bool false, faultV 0 0 ⟨#[]⟩ 0 0]) ∧ SRow w' 0 sn ns ∧ SRow w' 0 st ts ∧ Keeps [] w w' := by
  refine (plain_instK w hG (bs s) (bs t)).mono fun e w' hp => ?_
  rw [bs_data, bs_data, h] at hp
  obtain ⟨hk, sn, st, rfl, h1, h2⟩ := hp
  rw [ht] at h2
  rw [hn] at h1
  exact ⟨sn, st, rfl, h1.down (Nat.zero_le _), h2.down (Nat.zero_le _), hk⟩
theorem ins1 : instOf [97, 32, 45, 62, 32, 97] [105, 110, 116, 32, 45, 62, 32, 98, 111, 111, 108] = .error (11, 0) := by kernel_rfl
theorem ins2 : instOf [40, 97, 44, 32, 98, 41] [91, 105, 110, 116, 93] = .error (11, 0) := by kernel_rfl
theorem ins3 : instOf [105, 110, 116] [97] = .error (11, 0) := by kernel_rfl
theorem ins4 : instOf [40] [41] = .error (2, 1) := by kernel_rfl
theorem ins5 : instOf [97] [41] = .error (2, 0) := by kernel_rfl
theorem ins6 : ∃ ss l, instOf [97, 32, 45, 62, 32, 98, 32, 45, 62, 32, 91, 97, 93] [40, 120, 44, 32, 121, 41, 32, 45, 62, 32, 105, 110, 116, 32, 45, 62, 32, 91, 40, 120, 44, 32, 121, 41, 93] = .ok ([[97], [98]], ss, l) ∧ [[97], [98]].map (textOf [[97], [98]] ss l) = [[40, 120, 44, 32, 121, 41], [105, 110, 116]] :=
  ⟨[[120], [121]], [(1, .int), (0, .pair (.var 0) (.var 1))], by kernel_rfl, by kernel_rfl⟩
theorem ins7 : instOf [105, 110, 116] [105, 110, 116] = .ok ([], [], []) := by kernel_rfl
theorem ks_ab : ksOf [[97], [98]] = [[97], [98]] := by
  unfold ksOf
  refine List.mergeSort_of_pairwise ?_
  decide +kernel
end
section
variable {a : Nat → Addr} {B : Nat}
theorem inf_longX (w : World) (hG : Gl a B w) {LX : ByteArray} (hL : LX = bs xsP) {b1 b2 : Nat} (h1 : w.heap[b1]? = some (.cells #[.string ⟨#[120]⟩] 9 (0, 0))) (h2 : w.heap[b2]? = some (.cells #[.string LX] 9 (0, 0))) :
    Calls Tryz.prog 16 #[.string ⟨#[121]⟩, .slice (some ⟨b1, 0, none⟩) 1 1, .slice (some ⟨b2, 0, none⟩) 1 1, .int .i64 1] w (InfEnd w ⟨#[]⟩ 5 0 ⟨#[120]⟩ 1 0) := by
  subst hL
  exact inf_long w hG h1 h2
theorem inf_xsX (w : World) (hG : Gl a B w) {LX : ByteArray} (hL : LX = bs xsP) : Calls Tryz.prog 16 #[.string LX, .slice none 0 0, .slice none 0 0, .int .i64 0] w (InfEnd w ⟨#[]⟩ 1 0 ⟨#[]⟩ 0 0) := by
  subst hL
  exact inf_xs w hG
theorem show_xsX (w : World) (hG : Gl a B w) {LX : ByteArray} (hL : LX = bs xsP) : Calls Tryz.prog 13 #[.string LX] w fun e w' => e = .returned (.tuple #[.string ⟨#[]⟩, faultV 1 0 ⟨#[]⟩ 0 0]) ∧ Keeps [] w w' := by
  subst hL
  refine (pshow_any w hG xsP).mono fun e w' ⟨h1, h2⟩ => ⟨?_, h1⟩
  rw [h2, show showR xsP = ([], 1, 0) by unfold showR; rw [xs_exp]; rfl]
  rfl
theorem canon_xsX (w : World) (hG : Gl a B w) {LX : ByteArray} (hL : LX = bs xsP) : Calls Tryz.prog 14 #[.string LX] w fun e w' => e = .returned (.tuple #[.string ⟨#[]⟩, faultV 1 0 ⟨#[]⟩ 0 0]) ∧ Keeps [] w w' := by
  subst hL
  refine (pcanon_any w hG xsP).mono fun e w' ⟨h1, h2⟩ => ⟨?_, h1⟩
  rw [h2, show canonR xsP = ([], 1, 0) by unfold canonR; rw [xs_typ]; rfl]
  rfl
theorem inst6 (w : World) (hG : Gl a B w) : Calls Tryz.prog 17 #[.string ⟨#[97, 32, 45, 62, 32, 98, 32, 45, 62, 32, 91, 97, 93]⟩, .string ⟨#[40, 120, 44, 32, 121, 41, 32, 45, 62, 32, 105, 110, 116, 32, 45, 62, 32, 91, 40, 120, 44, 32, 121, 41, 93]⟩] w fun e w' =>
    ∃ sn st, e = .returned (.tuple #[sn, st, .bool false, faultV 0 0 ⟨#[]⟩ 0 0]) ∧ SRow w' 0 sn [[97], [98]] ∧ SRow w' 0 st [[40, 120, 44, 32, 121, 41], [105, 110, 116]] ∧ Keeps [] w w' := by
  obtain ⟨ss, l, h6, ht⟩ := ins6
  exact pinst_ok w hG h6 ks_ab (by rw [ks_ab]; exact ht)
theorem inst7 (w : World) (hG : Gl a B w) : Calls Tryz.prog 17 #[.string ⟨#[105, 110, 116]⟩, .string ⟨#[105, 110, 116]⟩] w fun e w' =>
    ∃ sn st, e = .returned (.tuple #[sn, st, .bool false, faultV 0 0 ⟨#[]⟩ 0 0]) ∧ SRow w' 0 sn [] ∧ SRow w' 0 st [] ∧ Keeps [] w w' :=
  pinst_ok w hG ins7 (by simp [ksOf]) (by simp [ksOf])
end
/-- A fault in a variable of its own. -/
abbrev boxO (what at_ : Int) (s : ByteArray) (inner ia : Int) : Obj := .cells #[.int .i64 what, .int .i64 at_, .string s, .int .i64 inner, .int .i64 ia] 28
end Go.Proofs.YtpbplpnifjbkoaaGreatDoor

namespace Go.Proofs.YtpbplpnifjbkoaaGreatDoor
open Go.RowKit

theorem flat_get {α : Type} (f g h : α → Value) (xs : List α) : ∀ (n : Nat) (x : α), xs[n]? = some x →
    (xs.flatMap fun x => [f x, g x, h x])[n * 3]? = some (f x) ∧ (xs.flatMap fun x => [f x, g x, h x])[n * 3 + 1]? = some (g x) ∧ (xs.flatMap fun x => [f x, g x, h x])[n * 3 + 2]? = some (h x) := by
  induction xs with
  | nil => intro n x h; simp at h
  | cons a r ih =>
    intro n x hx
    cases n with
    | zero =>
      simp at hx
      subst hx
      simp
    | succ n =>
      have h1 := ih n x (by simpa using hx)
      have e : (n + 1) * 3 = n * 3 + 3 := by omega
      rw [e]
      simp only [List.flatMap_cons]
      have h3 : ([f a, g a, h a] : List Value).length = 3 := rfl
      refine ⟨?_, ?_, ?_⟩
      · rw [List.getElem?_append_right (by simp), h3]; simpa using h1.1
      · rw [List.getElem?_append_right (by simp), h3]; simpa using h1.2.1
      · rw [List.getElem?_append_right (by simp), h3]; simpa using h1.2.2
theorem faultsQ_P : faultsQ (bs longP) (bs (deepP 39)) (bs (deepP 40)) = faultsP.map fun x => (bs x.1, x.2.1, x.2.2) := by kernel_rfl
theorem faults_cell {n : Nat} {x : Bytes × Int × Int} (h : faultsP[n]? = some x) : (faultsA (bs longP) (bs (deepP 39)) (bs (deepP 40)))[n * 3]? = some (.string (bs x.1)) ∧
    (faultsA (bs longP) (bs (deepP 39)) (bs (deepP 40)))[n * 3 + 1]? = some (.int .i64 x.2.1) ∧ (faultsA (bs longP) (bs (deepP 39)) (bs (deepP 40)))[n * 3 + 2]? = some (.int .i64 x.2.2) := by
  unfold faultsA
  rw [faultsQ_P]
  have h1 := flat_get (fun x : ByteArray × Int × Int => Value.string x.1) (fun x => .int .i64 x.2.1) (fun x => .int .i64 x.2.2) (faultsP.map fun x => (bs x.1, x.2.1, x.2.2)) n (bs x.1, x.2.1, x.2.2) (by rw [List.getElem?_map, h]; rfl)
  simpa using h1
theorem faults_len : faultsP.length = 55 := by decide +kernel
set_option maxRecDepth 100000 in
set_option maxHeartbeats 4000000 in
theorem refuses_law {a : Nat → Addr} {B : Nat} (c : Int) (hc : -9223372036854775808 ≤ c ∧ c ≤ 9223372036854775807) (w : World) (hG : Gl a B w) :
    Calls Tryz.prog 3 #[.int .i64 c] w fun e w' => e = .returned (.bool true) ∧ Keeps [] w w' := by
  have HG := Lib.hid hG
  clear hG
  go_enter Tryz.func3, Tryz.ntmps3
  go_wp2_with fail
  refine (faults_any w).mono ?_
  rintro e w1 ⟨fb, rfl, hfb, hk1⟩
  have HFB := Lib.hid hfb
  have HK1 := Lib.hid hk1
  clear hfb hk1
  go_wp2_with fail
  refine (pick_any c hc 63 (by omega) (by omega) w1).mono ?_
  rintro e w2 ⟨rfl, rfl⟩
  have hn := pickK_lt c 63 (by omega)
  generalize pickK c 63 = n at hn ⊢
  by_cases hlt : n < 55
  · obtain ⟨x, hx⟩ : ∃ x, faultsP[n]? = some x := ⟨_, List.getElem?_eq_getElem (by rw [faults_len]; exact hlt)⟩
    have hcl := faults_cell hx
    have c0 : w1.cell? ⟨fb, n * 3, none⟩ = some (.string (bs x.1)) := (cell_of_block HFB.out _).trans hcl.1
    have c1 : w1.cell? ⟨fb, n * 3 + 1, none⟩ = some (.int .i64 x.2.1) := (cell_of_block HFB.out _).trans hcl.2.1
    have c2 : w1.cell? ⟨fb, n * 3 + 2, none⟩ = some (.int .i64 x.2.2) := (cell_of_block HFB.out _).trans hcl.2.2
    have hd : decide ((n : Int) < 55) = true := by simp; omega
    have hxa := Lib.hid (List.all_eq_true.1 faults_all x (List.mem_of_getElem? hx))
    have hbx := block_alloc w1 (.cells #[.string (bs x.1), .int .i64 x.2.1, .int .i64 x.2.2] 26)
    have HBX := Lib.hid hbx
    have HKX := Lib.hid (HK1.out.alloc (.cells #[.string (bs x.1), .int .i64 x.2.1, .int .i64 x.2.2] 26))
    clear hcl hx hbx
    go_wp2_with fail
    refine (pshow_any _ (HG.out.keeps HKX.out (by simp)) x.1).mono ?_
    rintro e w2 ⟨hk2, rfl⟩
    have HK2 := Lib.hid (HKX.out.trans0 hk2)
    have hb2 := hk2.some HBX.out (by simp)
    have x0 := cell_of_block hb2 0
    have xl := lt_of_some hb2
    simp at x0
    have HB2 := Lib.hid hb2
    have hbf := block_alloc w2 (.cells #[.int .i64 (showR x.1).2.1, .int .i64 (showR x.1).2.2, .string ⟨#[]⟩, .int .i64 0, .int .i64 0] 28)
    have HBF := Lib.hid hbf
    have HKF := Lib.hid (HK2.out.alloc (.cells #[.int .i64 (showR x.1).2.1, .int .i64 (showR x.1).2.2, .string ⟨#[]⟩, .int .i64 0, .int .i64 0] 28))
    clear hk2 hb2 c0 c1 c2 hbf
    go_wp2_with fail
    refine (pcanon_any _ (HG.out.keeps HKF.out (by simp)) x.1).mono ?_
    rintro e w3 ⟨hk3, rfl⟩
    have HK3 := Lib.hid (HKF.out.trans0 hk3)
    have hb3 := hk3.some (block_alloc_old HB2.out) (by simp)
    have hf3 := hk3.some HBF.out (by simp)
    have x1 := cell_of_block hb3 1
    have x2 := cell_of_block hb3 2
    have xl3 := lt_of_some hb3
    have y0 := cell_of_block hf3 0
    have y1 := cell_of_block hf3 1
    have y2 := cell_of_block hf3 2
    have y3 := cell_of_block hf3 3
    have y4 := cell_of_block hf3 4
    have yl3 := lt_of_some hf3
    simp at x1 x2 y0 y1 y2 y3 y4
    have HB3 := Lib.hid hb3
    have hbg := block_alloc w3 (.cells #[.int .i64 (canonR x.1).2.1, .int .i64 (canonR x.1).2.2, .string ⟨#[]⟩, .int .i64 0, .int .i64 0] 28)
    have HBG := Lib.hid hbg
    have HKG := Lib.hid (HK3.out.alloc (.cells #[.int .i64 (canonR x.1).2.1, .int .i64 (canonR x.1).2.2, .string ⟨#[]⟩, .int .i64 0, .int .i64 0] 28))
    clear hk3 hb3 hf3 x0 xl hbg
    have hxx := hxa.out
    rw [Bool.and_eq_true] at hxx
    have HW1 := Lib.hid (show wrongP ((showR x.1).1, (showR x.1).2.1, (showR x.1).2.2) x.2.1 = true from hxx.1)
    have HW2 := Lib.hid (show wrongP ((canonR x.1).1, (canonR x.1).2.1, (canonR x.1).2.2) x.2.2 = true from hxx.2)
    clear hxx
    go_wp2_with fail
    refine (wrong_any _ _ 0 0 _ _ _ _).mono ?_
    rintro e w4 ⟨rfl, hk4⟩
    rw [HW1.out]
    have HK4 := Lib.hid (HKG.out.trans0 hk4)
    have hb4 := hk4.some (block_alloc_old HB3.out) (by simp)
    have hg4 := hk4.some HBG.out (by simp)
    have x2 := cell_of_block hb4 2
    have xl4 := lt_of_some hb4
    have y0 := cell_of_block hg4 0
    have y1 := cell_of_block hg4 1
    have y2 := cell_of_block hg4 2
    have y3 := cell_of_block hg4 3
    have y4 := cell_of_block hg4 4
    have yl4 := lt_of_some hg4
    simp at x2 y0 y1 y2 y3 y4
    clear hk4 hb4 hg4
    go_wp2_with fail
    refine (wrong_any _ _ 0 0 _ _ _ _).mono ?_
    rintro e w5 ⟨rfl, hk5⟩
    rw [HW2.out]
    have HK5 := Lib.hid (HK4.out.trans0 hk5)
    clear hk5
    go_wp2
    go_ret
    exact ⟨rfl, HK5.out⟩
  · have hd : decide ((n : Int) < 55) = false := by simp; omega
    go_wp2_with fail
    go_loopg [9] 301 (fun gg s wx => ∃ j : Nat, gg = 301 - j ∧ j ≤ 301 ∧ s = .string (bs (List.replicate j 120)) ∧ Keeps [] w wx)
    case atStart => exact ⟨0, rfl, by omega, rfl, HK1.out⟩
    case round =>
      obtain ⟨j, hg, hj, rfl, hk⟩ := hrel
      have HGG := Lib.hid hg
      have HK := Lib.hid hk
      clear hg hk
      have hz : (bs (List.replicate j (120 : UInt8))).size = j := by rw [bs_size]; simp
      by_cases hlt2 : j < 301
      · have hdl : decide ((j : Int) ≤ 300) = true := by simp; omega
        have s1 : ¬ 9223372036854775807 < j + 1 := by omega
        go_wp2_with fail
        go_roundg (301 - (j + 1))
        case measure => have := HGG.out; omega
        case rel =>
          refine ⟨j + 1, rfl, by omega, ?_, HK.out⟩
          refine congrArg Value.string (ba_ext ?_)
          simp [ByteArray.data_append, bs_data, List.replicate_succ']
      · obtain rfl : j = 301 := by omega
        obtain ⟨LX, hLX⟩ : ∃ LX, LX = bs (List.replicate 301 (120 : UInt8)) := ⟨_, rfl⟩
        rw [← hLX] at hz ⊢
        have HLX := Lib.hid (show LX = bs xsP from hLX)
        clear hLX
        have hdl : decide ((LX.size : Int) ≤ 300) = false := by simp; omega
        have hcase : n = 55 ∨ n = 56 ∨ n = 57 ∨ n = 58 ∨ n = 59 ∨ n = 60 ∨ n = 61 ∨ n = 62 := by omega
        rcases hcase with rfl | rfl | rfl | rfl | rfl | rfl | rfl | rfl
        · go_wp2_with fail
          refine (show_xsX _ (HG.out.keeps HK.out (by simp)) HLX.out).mono ?_
          rintro e w2 ⟨rfl, hk2⟩
          have HB2 := Lib.hid (block_alloc w2 (boxO 1 0 ⟨#[]⟩ 0 0))
          have HK2 := Lib.hid ((HK.out.trans0 hk2).alloc (boxO 1 0 ⟨#[]⟩ 0 0))
          clear hk2
          go_wp2_with fail
          refine (canon_xsX _ (HG.out.keeps HK2.out (by simp)) HLX.out).mono ?_
          rintro e w3 ⟨rfl, hk3⟩
          replace HB2 := Lib.hid (block_alloc_old (o' := boxO 1 0 ⟨#[]⟩ 0 0) (hk3.some HB2.out (by simp)))
          have HB3 := Lib.hid (block_alloc w3 (boxO 1 0 ⟨#[]⟩ 0 0))
          have HK3 := Lib.hid ((HK2.out.trans0 hk3).alloc (boxO 1 0 ⟨#[]⟩ 0 0))
          clear hk3
          go_wp2_with fail
          refine (inf_xsX _ (HG.out.keeps HK3.out (by simp)) HLX.out).mono ?_
          rintro e w4 ⟨⟨b4, rfl⟩, hk4⟩
          have hb2 := hk4.some HB2.out (by simp)
          have hb3 := hk4.some HB3.out (by simp)
          have y2 := cell_of_block hb2 0
          have y3 := cell_of_block hb3 0
          have l2 := lt_of_some hb2
          have l3 := lt_of_some hb3
          simp at y2 y3
          have HK4 := Lib.hid (HK3.out.trans0 hk4)
          clear hb2 hb3 hk4
          go_wp2_with fail
          go_ret
          exact ⟨rfl, HK4.out.alloc _⟩
        · go_wp2_with fail
          refine (inf_x0 _ (HG.out.keeps HK.out (by simp))).mono ?_
          rintro e w2 ⟨⟨b2, rfl⟩, hk2⟩
          have HB2 := Lib.hid (block_alloc w2 (boxO 6 0 ⟨#[]⟩ 0 0))
          have HK2 := Lib.hid ((HK.out.trans0 hk2).alloc (boxO 6 0 ⟨#[]⟩ 0 0))
          clear hk2
          go_wp2_with fail
          refine (inf_x13 _ (HG.out.keeps HK2.out (by simp))).mono ?_
          rintro e w3 ⟨⟨b3, rfl⟩, hk3⟩
          replace HB2 := Lib.hid (block_alloc_old (o' := boxO 6 0 ⟨#[]⟩ 0 0) (hk3.some HB2.out (by simp)))
          have HB3 := Lib.hid (block_alloc w3 (boxO 6 0 ⟨#[]⟩ 0 0))
          have HK3 := Lib.hid ((HK2.out.trans0 hk3).alloc (boxO 6 0 ⟨#[]⟩ 0 0))
          clear hk3
          go_wp2_with fail
          refine (inf_1 _ (HG.out.keeps HK3.out (by simp))).mono ?_
          rintro e w4 ⟨⟨b4, rfl⟩, hk4⟩
          have hb2 := hk4.some HB2.out (by simp)
          have hb3 := hk4.some HB3.out (by simp)
          have y2 := cell_of_block hb2 0
          have y3 := cell_of_block hb3 0
          have l2 := lt_of_some hb2
          have l3 := lt_of_some hb3
          simp at y2 y3
          have HK4 := Lib.hid (HK3.out.trans0 hk4)
          clear hb2 hb3 hk4
          go_wp2_with fail
          go_ret
          exact ⟨rfl, HK4.out.alloc _⟩
        · go_wp2_with fail
          have ha := block_alloc_old (o' := .cells #[.string ⟨#[105, 110, 116]⟩, .string ⟨#[40]⟩, .string ⟨#[41]⟩] 9) (block_alloc wr (.cells #[.string ⟨#[120]⟩, .string ⟨#[98]⟩, .string ⟨#[99]⟩] 9))
          have hb := block_alloc (wr.alloc (.cells #[.string ⟨#[120]⟩, .string ⟨#[98]⟩, .string ⟨#[99]⟩] 9)) (.cells #[.string ⟨#[105, 110, 116]⟩, .string ⟨#[40]⟩, .string ⟨#[41]⟩] 9)
          rw [show (wr.alloc (.cells #[.string ⟨#[120]⟩, .string ⟨#[98]⟩, .string ⟨#[99]⟩] 9)).heap.size = wr.heap.size + 1 by simp] at hb
          have HKa := Lib.hid ((HK.out.alloc (.cells #[.string ⟨#[120]⟩, .string ⟨#[98]⟩, .string ⟨#[99]⟩] 9)).alloc (.cells #[.string ⟨#[105, 110, 116]⟩, .string ⟨#[40]⟩, .string ⟨#[41]⟩] 9))
          refine (inf_b _ (HG.out.keeps HKa.out (by simp)) ha hb).mono ?_
          rintro e w2 ⟨⟨b2, rfl⟩, hk2⟩
          have HK2 := Lib.hid (HKa.out.trans0 hk2)
          clear ha hb hk2
          go_wp2_with fail
          go_ret
          exact ⟨rfl, HK2.out.alloc _⟩
        · go_wp2_with fail
          have ha := block_alloc_old (o' := .cells #[.string ⟨#[105, 110, 116]⟩] 9) (block_alloc wr (.cells #[.string ⟨#[108, 101, 116]⟩] 9))
          have hb := block_alloc (wr.alloc (.cells #[.string ⟨#[108, 101, 116]⟩] 9)) (.cells #[.string ⟨#[105, 110, 116]⟩] 9)
          rw [show (wr.alloc (.cells #[.string ⟨#[108, 101, 116]⟩] 9)).heap.size = wr.heap.size + 1 by simp] at hb
          have HKa := Lib.hid ((HK.out.alloc (.cells #[.string ⟨#[108, 101, 116]⟩] 9)).alloc (.cells #[.string ⟨#[105, 110, 116]⟩] 9))
          refine (inf_let _ (HG.out.keeps HKa.out (by simp)) ha hb).mono ?_
          rintro e w2 ⟨⟨b2, rfl⟩, hk2⟩
          have HK2 := Lib.hid (HKa.out.trans0 hk2)
          clear ha hb hk2
          go_wp2_with fail
          go_ret
          exact ⟨rfl, HK2.out.alloc _⟩
        · go_wp2_with fail
          have ha := block_alloc_old (o' := .cells #[.string LX] 9) (block_alloc wr (.cells #[.string ⟨#[120]⟩] 9))
          have hb := block_alloc (wr.alloc (.cells #[.string ⟨#[120]⟩] 9)) (.cells #[.string LX] 9)
          rw [show (wr.alloc (.cells #[.string ⟨#[120]⟩] 9)).heap.size = wr.heap.size + 1 by simp] at hb
          have HKa := Lib.hid ((HK.out.alloc (.cells #[.string ⟨#[120]⟩] 9)).alloc (.cells #[.string LX] 9))
          refine (inf_longX _ (HG.out.keeps HKa.out (by simp)) HLX.out ha hb).mono ?_
          rintro e w2 ⟨⟨b2, rfl⟩, hk2⟩
          have HK2 := Lib.hid (HKa.out.trans0 hk2)
          clear ha hb hk2
          go_wp2_with fail
          go_ret
          exact ⟨rfl, HK2.out.alloc _⟩
        · go_wp2_with fail
          refine (pinst_err _ (HG.out.keeps HK.out (by simp)) ins1).mono ?_
          rintro e w2 ⟨rfl, hk2⟩
          have HB2 := Lib.hid (block_alloc w2 (boxO 11 0 ⟨#[]⟩ 0 0))
          have HK2 := Lib.hid ((HK.out.trans0 hk2).alloc (boxO 11 0 ⟨#[]⟩ 0 0))
          clear hk2
          go_wp2_with fail
          refine (pinst_err _ (HG.out.keeps HK2.out (by simp)) ins2).mono ?_
          rintro e w3 ⟨rfl, hk3⟩
          replace HB2 := Lib.hid (block_alloc_old (o' := boxO 11 0 ⟨#[]⟩ 0 0) (hk3.some HB2.out (by simp)))
          have HB3 := Lib.hid (block_alloc w3 (boxO 11 0 ⟨#[]⟩ 0 0))
          have HK3 := Lib.hid ((HK2.out.trans0 hk3).alloc (boxO 11 0 ⟨#[]⟩ 0 0))
          clear hk3
          go_wp2_with fail
          refine (pinst_err _ (HG.out.keeps HK3.out (by simp)) ins3).mono ?_
          rintro e w4 ⟨rfl, hk4⟩
          have hb2 := hk4.some HB2.out (by simp)
          have hb3 := hk4.some HB3.out (by simp)
          have y2 := cell_of_block hb2 0
          have y3 := cell_of_block hb3 0
          have l2 := lt_of_some hb2
          have l3 := lt_of_some hb3
          simp at y2 y3
          have HK4 := Lib.hid (HK3.out.trans0 hk4)
          clear hb2 hb3 hk4
          go_wp2_with fail
          go_ret
          exact ⟨rfl, HK4.out.alloc _⟩
        · go_wp2_with fail
          refine (inst6 _ (HG.out.keeps HK.out (by simp))).mono ?_
          rintro e w2 ⟨sn, st, rfl, h1, h2, hk2⟩
          obtain ⟨a1, c1, rfl, _⟩ := id h1
          obtain ⟨a2, c2, rfl, _⟩ := id h2
          have HB2 := Lib.hid (block_alloc w2 (boxO 0 0 ⟨#[]⟩ 0 0))
          have HR1 := Lib.hid (h1.keep0 ((Keeps.refl [] w2).alloc (boxO 0 0 ⟨#[]⟩ 0 0)))
          have HR2 := Lib.hid (h2.keep0 ((Keeps.refl [] w2).alloc (boxO 0 0 ⟨#[]⟩ 0 0)))
          have HK2 := Lib.hid ((HK.out.trans0 hk2).alloc (boxO 0 0 ⟨#[]⟩ 0 0))
          clear hk2 h1 h2
          go_wp2_with fail
          refine (inst7 _ (HG.out.keeps HK2.out (by simp))).mono ?_
          rintro e w3 ⟨sn2, st2, rfl, h3, h4, hk3⟩
          obtain ⟨a3, c3, rfl, _⟩ := h3
          obtain ⟨a4, c4, rfl, _⟩ := h4
          obtain ⟨_, _, q1, hq1⟩ := HR1.out.keep0 hk3
          obtain ⟨_, _, q2, hq2⟩ := HR2.out.keep0 hk3
          cases q1
          cases q2
          obtain ⟨g1, _, rfl, m0⟩ := hq1 0 _ rfl
          obtain ⟨g2, _, rfl, n0⟩ := hq2 0 _ rfl
          obtain ⟨g2', _, hgg, n1⟩ := hq2 1 _ rfl
          cases hgg
          have hb2 := hk3.some HB2.out (by simp)
          have y0 := cell_of_block hb2 0
          have l2 := lt_of_some hb2
          simp at y0
          have m0' : w3.cell? ⟨g1, 0, none⟩ = some (.string ⟨#[97]⟩) := m0
          have n0' : w3.cell? ⟨g2, 0, none⟩ = some (.string ⟨#[40, 120, 44, 32, 121, 41]⟩) := n0
          have n1' : w3.cell? ⟨g2, 1, none⟩ = some (.string ⟨#[105, 110, 116]⟩) := n1
          have HK3 := Lib.hid (HK2.out.trans0 hk3)
          clear hb2 hk3 m0 n0 n1 hq1 hq2
          have lg1 := lt_of_cell m0'
          have lg2 := lt_of_cell n0'
          go_wp2_with fail
          all_goals
            go_ret
            exact ⟨rfl, by repeat (first | exact HK3.out | refine Keeps.drew ?_ | refine Keeps.alloc ?_ _)⟩
        · go_wp2_with fail
          refine (pinst_err _ (HG.out.keeps HK.out (by simp)) ins4).mono ?_
          rintro e w2 ⟨rfl, hk2⟩
          have HB2 := Lib.hid (block_alloc w2 (boxO 2 1 ⟨#[]⟩ 0 0))
          have HK2 := Lib.hid ((HK.out.trans0 hk2).alloc (boxO 2 1 ⟨#[]⟩ 0 0))
          clear hk2
          go_wp2_with fail
          refine (pinst_err _ (HG.out.keeps HK2.out (by simp)) ins5).mono ?_
          rintro e w3 ⟨rfl, hk3⟩
          have hb2 := hk3.some HB2.out (by simp)
          have y0 := cell_of_block hb2 0
          have y1 := cell_of_block hb2 1
          have l2 := lt_of_some hb2
          simp at y0 y1
          have HK3 := Lib.hid (HK2.out.trans0 hk3)
          clear hb2 hk3
          go_wp2_with fail
          go_ret
          exact ⟨rfl, HK3.out.alloc _⟩
end Go.Proofs.YtpbplpnifjbkoaaGreatDoor

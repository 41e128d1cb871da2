/-
  The document's Letter, Shown: by contracts.
-/
import Derived.Test.YtpbplpnifjbkoaaDoorRtyp
import Derived.Test.YtpbplpnifjbkoaaDoorTcan
import Derived.Deep.RegionHeld3
import Derived.Laws.MakeOwn
namespace Go.Proofs.YtpbplpnifjbkoaaDoor
open Go.RowKit

theorem figure_conv (w : World) (n : Nat) (h : n < 10) : (convert 124 9 (.slice (some ⟨w.heap.size, 0, none⟩) 1 1)).run Tryd.prog (w.alloc (.cells #[.int .u8 (48 + (n : Int))] 5)) =
    .ok (.string (bs [UInt8.ofNat (48 + n)])) (w.alloc (.cells #[.int .u8 (48 + (n : Int))] 5)) := by
  have hb := block_alloc w (.cells #[.int .u8 (48 + (n : Int))] 5)
  have hc := cell_of_block hb 0
  refine run_convert_bytes_back _ 124 9 5 ⟨w.heap.size, 0, none⟩ 1 [UInt8.ofNat (48 + n)] (by kernel_rfl) (by kernel_rfl) (by kernel_rfl) fun j hj => ?_
  have hj0 : j = 0 := by simpa using hj
  subst hj0
  have ha : (⟨w.heap.size, 0, none⟩ : Addr).add 0 = ⟨w.heap.size, 0, none⟩ := by simp [Addr.add]
  rw [ha, hc]
  have : (UInt8.ofNat (48 + n)).toNat = 48 + n := by simp; omega
  simp only [List.getElem_cons_zero, this]
  simp
set_option maxRecDepth 100000 in
theorem rfigs_any (n : Nat) (hn : n < 10) (w : World) : Calls Tryd.prog 58 #[.int .i64 n] w fun e w' => e = .returned (.string (bs (figs n))) ∧ Keeps [] w w' := by
  have hcv := figure_conv w n hn
  obtain ⟨c, hc⟩ : ∃ c, UInt8.ofNat (48 + n) = c := ⟨_, rfl⟩
  rw [hc] at hcv
  have HK := Lib.hid ((Keeps.refl [] w).alloc (.cells #[.int .u8 (48 + (n : Int))] 5))
  have hd : decide ((n : Int) < 10) = true := by simp; omega
  have HL := Lib.hid (show figs n = [c] by unfold figs; rw [if_pos hn, hc])
  clear hc
  go_enter Tryd.func58, Tryd.ntmps58
  go_wp2
  go_ret
  exact ⟨by rw [HL.out]; rfl, HK.out⟩
set_option maxRecDepth 100000 in
theorem rletter_any (n : Nat) (hn : n < 260) (w : World) : Calls Tryd.prog 33 #[.int .i64 n] w fun e w' => e = .returned (.string (bs (letter n))) ∧ Keeps [] w w' := by
  have hcv := letter_conv w n
  obtain ⟨c, hc⟩ : ∃ c, UInt8.ofNat (97 + n % 26) = c := ⟨_, rfl⟩
  rw [hc] at hcv
  have HK := Lib.hid ((Keeps.refl [] w).alloc (.cells #[.int .u8 (97 + (n : Int) % 26)] 5))
  by_cases h : n < 26
  · have hd : decide ((n : Int) > 25) = false := by simp; omega
    have HL := Lib.hid (show letter n = [c] by unfold letter; rw [if_pos h, hc])
    clear hc
    go_enter Tryd.func33, Tryd.ntmps33
    go_wp2
    go_ret
    exact ⟨by rw [HL.out]; rfl, HK.out⟩
  · have hd : decide ((n : Int) > 25) = true := by simp; omega
    have hdv : (n : Int) / 26 = ((n / 26 : Nat) : Int) := by omega
    have hI := rfigs_any (n / 26) (by omega) (w.alloc (.cells #[.int .u8 (97 + (n : Int) % 26)] 5))
    rw [← hdv] at hI
    have HI := Lib.hid hI
    have HL := Lib.hid (show (bs [c] : ByteArray) ++ bs (figs (n / 26)) = bs (letter n) by
      unfold letter
      rw [if_neg h, hc]
      apply ba_ext
      simp [bs])
    have hs : ¬ 9223372036854775807 < (bs [c]).size + (bs (figs (n / 26))).size := by
      have := figs_len (n := n / 26) (by omega)
      simp only [bs_size, List.length_cons, List.length_nil]
      omega
    clear hdv hc hI
    go_enter Tryd.func33, Tryd.ntmps33
    go_wp2_with fail
    refine HI.out.mono ?_
    rintro e w' ⟨rfl, hk⟩
    go_wp2
    go_ret
    exact ⟨congrArg (fun b => Ending.returned (.string b)) HL.out, HK.out.trans0 hk⟩

/-- A slice of names: of each variable that stands in the type. -/
def NmRow (w : World) (gn len : Nat) (nm : Nat → Bytes) (t : Ty) : Prop := ∀ v, t.has v → v < len ∧ w.cell? ⟨gn, v, none⟩ = some (.string (bs (nm v)))
theorem NmRow.keep {w w' : World} {gn len : Nat} {nm : Nat → Bytes} {t : Ty} (h : NmRow w gn len nm t) (hk : Keeps [] w w') : NmRow w' gn len nm t := fun v hv => ⟨(h v hv).1, hk.cellSome (h v hv).2 (by simp)⟩
def RShowOK (gn len cap : Nat) (nm : Nat → Bytes) (t : Ty) : Prop := ∀ (w : World) (v : Value), RTy w t v → NmRow w gn len nm t →
  Calls Tryd.prog 17 #[v, .slice (some ⟨gn, 0, none⟩) len cap] w fun e w' => e = .returned (.string (bs (shown nm t))) ∧ Keeps [] w w'
theorem kk (t : Ty) (l : Bytes) : ((bs (kindT t)).toList == l) = (kindT t == l) := by rw [ByteArray.toList_eq, bs_data]

set_option maxRecDepth 100000 in
set_option maxHeartbeats 4000000 in
theorem rshow_var (gn len cap : Nat) (nm : Nat → Bytes) (n : Nat) : RShowOK gn len cap nm (.var n) := by
  intro w v hv hn
  obtain ⟨b, rfl, hb⟩ := hv
  obtain ⟨hl, hc⟩ := hn n rfl
  have c0 : w.cell? ⟨b, 0, none⟩ = some (.string (bs [])) := cell_of_block hb 0
  have c1 : w.cell? ⟨b, 1, none⟩ = some (.int .i64 n) := cell_of_block hb 1
  have q0 : ((bs []).toList == []) = true := by rw [ByteArray.toList_eq, bs_data]; rfl
  have i0 : (0 : Int) ≤ (n : Int) := by omega
  have i1 : (n : Int) < (len : Int) := by omega
  clear hb hn
  go_enter Tryd.func17, Tryd.ntmps17
  go_wp2
  go_ret
  exact ⟨rfl, Keeps.refl _ _⟩
set_option maxRecDepth 100000 in
set_option maxHeartbeats 4000000 in
theorem rshow_int (gn len cap : Nat) (nm : Nat → Bytes) : RShowOK gn len cap nm .int := by
  intro w v hv _
  obtain ⟨b, rfl, hb⟩ := hv
  have c0 : w.cell? ⟨b, 0, none⟩ = some (.string (bs tInt)) := cell_of_block hb 0
  have q0 : ((bs tInt).toList == []) = false ∧ ((bs tInt).toList == tList) = false ∧ ((bs tInt).toList == tPair) = false ∧ ((bs tInt).toList == tFun) = false := by simp only [ByteArray.toList_eq, bs_data]; decide
  obtain ⟨q0, q1, q2, q3⟩ := q0
  clear hb
  go_enter Tryd.func17, Tryd.ntmps17
  go_wp2
  go_ret
  exact ⟨rfl, Keeps.refl _ _⟩
set_option maxRecDepth 100000 in
set_option maxHeartbeats 4000000 in
theorem rshow_bool (gn len cap : Nat) (nm : Nat → Bytes) : RShowOK gn len cap nm .bool := by
  intro w v hv _
  obtain ⟨b, rfl, hb⟩ := hv
  have c0 : w.cell? ⟨b, 0, none⟩ = some (.string (bs tBool)) := cell_of_block hb 0
  have q0 : ((bs tBool).toList == []) = false ∧ ((bs tBool).toList == tList) = false ∧ ((bs tBool).toList == tPair) = false ∧ ((bs tBool).toList == tFun) = false := by simp only [ByteArray.toList_eq, bs_data]; decide
  obtain ⟨q0, q1, q2, q3⟩ := q0
  clear hb
  go_enter Tryd.func17, Tryd.ntmps17
  go_wp2
  go_ret
  exact ⟨rfl, Keeps.refl _ _⟩
set_option maxRecDepth 100000 in
set_option maxHeartbeats 4000000 in
theorem rshow_list (gn len cap : Nat) (nm : Nat → Bytes) (a : Ty) (hl : (shown nm (.list a)).length ≤ 1000000) (ih : RShowOK gn len cap nm a) : RShowOK gn len cap nm (.list a) := by
  intro w v hv hn
  obtain ⟨b, sv, va, rfl, hb, ⟨g, cp, cs, rfl, hg, hcs⟩, hva⟩ := hv
  obtain ⟨ab, rfl⟩ := hva.ptr
  have c0 : w.cell? ⟨b, 0, none⟩ = some (.string (bs tList)) := cell_of_block hb 0
  have c2 : w.cell? ⟨b, 2, none⟩ = some (.slice (some ⟨g, 0, none⟩) 1 cp) := cell_of_block hb 2
  have g0 : w.cell? ⟨g, 0, none⟩ = some (pV ab) := (cell_of_block hg 0).trans (hcs 0 _ rfl)
  have q0 : ((bs tList).toList == []) = false ∧ ((bs tList).toList == tList) = true := by simp only [ByteArray.toList_eq, bs_data]; decide
  obtain ⟨q0, q1⟩ := q0
  simp only [shown, List.length_append, List.length_cons, List.length_nil] at hl
  have s0 : ¬ 9223372036854775807 < 1 + (bs (shown nm a)).size := by rw [bs_size]; omega
  have s1 : ¬ 9223372036854775807 < 1 + (bs (shown nm a)).size + 1 := by rw [bs_size]; omega
  have HC := Lib.hid (ih w _ hva fun v h => hn v h)
  clear hb hg hcs hva hn ih hl
  go_enter Tryd.func17, Tryd.ntmps17
  go_wp2_with fail
  refine HC.out.mono ?_
  rintro e w2 ⟨rfl, hk⟩
  go_wp2
  go_ret
  refine ⟨congrArg (fun b => Ending.returned (.string b)) ?_, hk⟩
  apply ba_ext
  simp only [ByteArray.data_append, Array.toList_append, bs_data, shown]
set_option maxRecDepth 100000 in
set_option maxHeartbeats 4000000 in
theorem rshow_arr (gn len cap : Nat) (nm : Nat → Bytes) (a c : Ty) (hl : (shown nm (.arr a c)).length ≤ 1000000) (iha : RShowOK gn len cap nm a) (ihc : RShowOK gn len cap nm c) : RShowOK gn len cap nm (.arr a c) := by
  intro w v hv hn
  obtain ⟨b, sv, va, vc, rfl, hb, ⟨g, cp, cs, rfl, hg, hcs⟩, hva, hvc⟩ := hv
  obtain ⟨ab, ad, acap, avs, rfl, hab, _, _⟩ := hva.node
  obtain ⟨cb, rfl⟩ := hvc.ptr
  have c0 : w.cell? ⟨b, 0, none⟩ = some (.string (bs tFun)) := cell_of_block hb 0
  have c2 : w.cell? ⟨b, 2, none⟩ = some (.slice (some ⟨g, 0, none⟩) 2 cp) := cell_of_block hb 2
  have g0 : w.cell? ⟨g, 0, none⟩ = some (pV ab) := (cell_of_block hg 0).trans (hcs 0 _ rfl)
  have g1 : w.cell? ⟨g, 1, none⟩ = some (pV cb) := (cell_of_block hg 1).trans (hcs 1 _ rfl)
  have k0 : w.cell? ⟨ab, 0, none⟩ = some (.string (bs (kindT a))) := cell_of_block hab 0
  have q0 : ((bs tFun).toList == []) = false ∧ ((bs tFun).toList == tList) = false ∧ ((bs tFun).toList == tPair) = false ∧ ((bs tFun).toList == tFun) = true := by simp only [ByteArray.toList_eq, bs_data]; decide
  obtain ⟨q0, q1, q2, q3⟩ := q0
  have q9 : ((bs (kindT a)).toList == tFun) = isArr a := by rw [ByteArray.toList_eq, bs_data]; cases a <;> rfl
  have HC := Lib.hid (iha w _ hva fun v h => hn v (.inl h))
  have HD := Lib.hid (fun (w2 : World) (hk : Keeps [] w w2) => ihc w2 _ (hk.kr.ty hvc) (NmRow.keep (fun v h => hn v (.inr h)) hk))
  have HC0 := Lib.hid c0
  clear hb hg hcs hva hvc hn iha ihc hab
  cases hia : isArr a with
  | true =>
    rw [hia] at q9
    simp only [shown, hia, if_true, par, List.length_append, List.length_cons, List.length_nil] at hl
    have s0 : ¬ 9223372036854775807 < 1 + (bs (shown nm a)).size := by rw [bs_size]; omega
    have s1 : ¬ 9223372036854775807 < 1 + (bs (shown nm a)).size + 1 := by rw [bs_size]; omega
    have s2 : ¬ 9223372036854775807 < 1 + (bs (shown nm a)).size + 1 + 4 := by rw [bs_size]; omega
    have s3 : ¬ 9223372036854775807 < 1 + (bs (shown nm a)).size + 1 + 4 + (bs (shown nm c)).size := by simp only [bs_size]; omega
    have HIS := Lib.hid hia
    clear hl hia
    go_enter Tryd.func17, Tryd.ntmps17
    go_wp2_with fail
    refine HC.out.mono ?_
    rintro e w2 ⟨rfl, hk⟩
    have d2 := hk.cellSome c2 (by simp)
    have e0 := hk.cellSome g0 (by simp)
    have e1 := hk.cellSome g1 (by simp)
    have k1 := hk.cellSome k0 (by simp)
    have HE := Lib.hid (HD.out w2 hk)
    have HK := Lib.hid hk
    clear hk c0 c2 g0 g1 k0
    go_wp2_with fail
    refine HE.out.mono ?_
    rintro e w3 ⟨rfl, hk⟩
    go_wp2
    go_ret
    refine ⟨congrArg (fun b => Ending.returned (.string b)) ?_, HK.out.trans0 hk⟩
    apply ba_ext
    simp only [ByteArray.data_append, Array.toList_append, bs_data, shown, HIS.out, par, if_true]
  | false =>
    rw [hia] at q9
    simp only [shown, hia, Bool.false_eq_true, if_false, List.length_append, List.length_cons, List.length_nil] at hl
    have s2 : ¬ 9223372036854775807 < (bs (shown nm a)).size + 4 := by rw [bs_size]; omega
    have s3 : ¬ 9223372036854775807 < (bs (shown nm a)).size + 4 + (bs (shown nm c)).size := by simp only [bs_size]; omega
    have HIS := Lib.hid hia
    clear hl hia
    go_enter Tryd.func17, Tryd.ntmps17
    go_wp2_with fail
    refine HC.out.mono ?_
    rintro e w2 ⟨rfl, hk⟩
    have d2 := hk.cellSome c2 (by simp)
    have e0 := hk.cellSome g0 (by simp)
    have e1 := hk.cellSome g1 (by simp)
    have k1 := hk.cellSome k0 (by simp)
    have HE := Lib.hid (HD.out w2 hk)
    have HK := Lib.hid hk
    clear hk c0 c2 g0 g1 k0
    go_wp2_with fail
    refine HE.out.mono ?_
    rintro e w3 ⟨rfl, hk⟩
    go_wp2
    go_ret
    refine ⟨congrArg (fun b => Ending.returned (.string b)) ?_, HK.out.trans0 hk⟩
    apply ba_ext
    simp only [ByteArray.data_append, Array.toList_append, bs_data, shown, HIS.out, Bool.false_eq_true, if_false]
set_option maxRecDepth 100000 in
set_option maxHeartbeats 4000000 in
theorem rshow_pair (gn len cap : Nat) (nm : Nat → Bytes) (a c : Ty) (hl : (shown nm (.pair a c)).length ≤ 1000000) (iha : RShowOK gn len cap nm a) (ihc : RShowOK gn len cap nm c) : RShowOK gn len cap nm (.pair a c) := by
  intro w v hv hn
  obtain ⟨b, sv, va, vc, rfl, hb, ⟨g, cp, cs, rfl, hg, hcs⟩, hva, hvc⟩ := hv
  obtain ⟨ab, rfl⟩ := hva.ptr
  obtain ⟨cb, rfl⟩ := hvc.ptr
  have c0 : w.cell? ⟨b, 0, none⟩ = some (.string (bs tPair)) := cell_of_block hb 0
  have c2 : w.cell? ⟨b, 2, none⟩ = some (.slice (some ⟨g, 0, none⟩) 2 cp) := cell_of_block hb 2
  have g0 : w.cell? ⟨g, 0, none⟩ = some (.pointer (some ⟨ab, 0, none⟩)) := (cell_of_block hg 0).trans (hcs 0 _ rfl)
  have g1 : w.cell? ⟨g, 1, none⟩ = some (.pointer (some ⟨cb, 0, none⟩)) := (cell_of_block hg 1).trans (hcs 1 _ rfl)
  have q0 : ((bs tPair).toList == []) = false ∧ ((bs tPair).toList == tList) = false ∧ ((bs tPair).toList == tPair) = true := by simp only [ByteArray.toList_eq, bs_data]; decide
  obtain ⟨q0, q1, q2⟩ := q0
  have HA := Lib.hid (fun (w2 : World) (hk : Keeps [] w w2) => iha w2 _ (hk.kr.ty hva) (NmRow.keep (fun v h => hn v (.inl h)) hk))
  have HD := Lib.hid (fun (w2 : World) (hk : Keeps [] w w2) => ihc w2 _ (hk.kr.ty hvc) (NmRow.keep (fun v h => hn v (.inr h)) hk))
  simp only [shown, List.length_append, List.length_cons, List.length_nil] at hl
  have s0 : ¬ 9223372036854775807 < 1 + (bs (shown nm a)).size := by simp only [bs_size]; omega
  have s1 : ¬ 9223372036854775807 < 1 + (bs (shown nm a)).size + 2 := by simp only [bs_size]; omega
  have s2 : ¬ 9223372036854775807 < 1 + (bs (shown nm a)).size + 2 + (bs (shown nm c)).size := by simp only [bs_size]; omega
  have s3 : ¬ 9223372036854775807 < 1 + (bs (shown nm a)).size + 2 + (bs (shown nm c)).size + 1 := by simp only [bs_size]; omega
  clear hb hg hcs hva hvc hn iha ihc hl
  go_enter Tryd.func17, Tryd.ntmps17
  go_wp2_with fail
  clear c0 q0 q1 q2
  go_region_held3 (fun W => W.cell? ⟨b, 2, none⟩ = some (.slice (some ⟨g, 0, none⟩) 2 cp) ∧ W.cell? ⟨g, 0, none⟩ = some (.pointer (some ⟨ab, 0, none⟩)) ∧ W.cell? ⟨g, 1, none⟩ = some (.pointer (some ⟨cb, 0, none⟩)) ∧ Keeps [] w W)
    (first | exact ⟨(Keeps.refl [] w).drew.cellSome c2 (by simp), (Keeps.refl [] w).drew.cellSome g0 (by simp), (Keeps.refl [] w).drew.cellSome g1 (by simp), (Keeps.refl [] w).drew⟩ | exact ⟨hka.cellSome c2 (by simp), hka.cellSome g0 (by simp), hka.cellSome g1 (by simp), hka⟩ | exact ⟨hkc.cellSome c2 (by simp), hkc.cellSome g0 (by simp), hkc.cellSome g1 (by simp), hkc⟩)
    (first | (go_at_call_of 17 (Value.pointer (some (Addr.mk ab 0 none))); refine (HA.out _ ?_).mono ?_; (first | exact (Keeps.refl [] w).drew | assumption); rintro e Wa ⟨rfl, hza⟩; have hka := Keeps.trans0 (show Keeps [] w _ by first | exact (Keeps.refl [] w).drew | assumption) hza; clear hza)
           | (go_at_call_of 17 (Value.pointer (some (Addr.mk cb 0 none))); refine (HD.out _ ?_).mono ?_; (first | exact (Keeps.refl [] w).drew | assumption); rintro e Wc ⟨rfl, hzc⟩; have hkc := Keeps.trans0 (show Keeps [] w _ by first | exact (Keeps.refl [] w).drew | assumption) hzc; clear hzc))
  all_goals
    go_wp2
    go_ret
    refine ⟨congrArg (fun b => Ending.returned (.string b)) ?_, by assumption⟩
    apply ba_ext
    simp only [ByteArray.data_append, Array.toList_append, bs_data, shown]

theorem rshow_any (gn len cap : Nat) (nm : Nat → Bytes) (t : Ty) (hl : (shown nm t).length ≤ 1000000) : RShowOK gn len cap nm t := by
  induction t with
  | var n => exact rshow_var gn len cap nm n
  | int => exact rshow_int gn len cap nm
  | bool => exact rshow_bool gn len cap nm
  | list a ih => exact rshow_list gn len cap nm a hl (ih (by simp [shown] at hl; omega))
  | pair a b iha ihb => exact rshow_pair gn len cap nm a b hl (iha (by simp [shown] at hl; omega)) (ihb (by simp [shown] at hl; omega))
  | arr a b iha ihb =>
    have := isArr_shown nm a
    exact rshow_arr gn len cap nm a b hl (iha (by simp only [shown, List.length_append, List.length_cons, List.length_nil] at hl; omega)) (ihb (by simp only [shown, List.length_append, List.length_cons, List.length_nil] at hl; omega))
end Go.Proofs.YtpbplpnifjbkoaaDoor

namespace Go.Proofs.YtpbplpnifjbkoaaDoor
open Go.RowKit

theorem letter_len' {n : Nat} (h : n < 2600) : (letter n).length ≤ 3 := by
  unfold letter
  by_cases h1 : n < 26
  · rw [if_pos h1]; simp
  · rw [if_neg h1]
    have := figs_len (n := n / 26) (by omega)
    simp; omega
theorem canon_read {t : Ty} {m : Nat} (h : varsL t [] = List.range m) : canon t = shown letter t := by
  unfold canon
  refine shown_congr fun v hv => ?_
  have hm : v ∈ varsL t [] := (mem_varsL t [] v).2 (.inr hv)
  rw [h] at hm ⊢
  have hlt : v < m := by simpa using hm
  have h1 : (List.range m).idxOf v < (List.range m).length := List.idxOf_lt_length_of_mem hm
  have h2 := List.getElem_idxOf h1
  simp only [List.getElem_range] at h2
  rw [h2]
theorem shown_letter_len {t : Ty} (hs : t.size ≤ 120) (h : ∀ v, t.has v → v < 260) : (shown letter t).length ≤ 1000000 := by
  have he : shown letter t = shown (fun v => if v < 260 then letter v else []) t := shown_congr fun v hv => by rw [if_pos (h v hv)]
  rw [he]
  have := shown_len (fun v => if v < 260 then letter v else []) 3 (fun n => by
    show (if n < 260 then letter n else []).length ≤ 3
    split
    · exact letter_len' (by omega)
    · simp) t
  have h2 : t.size * 11 ≤ 120 * 11 := Nat.mul_le_mul_right _ hs
  omega
theorem madeStr (n j : Nat) (h : j < n) : (madeCells #[Value.string ⟨#[]⟩] n)[j]? = some (.string ⟨#[]⟩) := by
  simp [madeCells, h, Nat.mod_one]

/-- The names given so far. -/
def LettersAt (w : World) (g m k : Nat) : Prop := ∃ cs, w.heap[g]? = some (.cells cs 9 (0, 0)) ∧ cs.size = m ∧ (∀ j, j < m → ∃ x, cs[j]? = some (.string x)) ∧ ∀ j, j < k → cs[j]? = some (.string (bs (letter j)))

set_option maxRecDepth 100000 in
set_option maxHeartbeats 4000000 in
theorem rcanon_any (t : Ty) (m : Nat) (hm : varsL t [] = List.range m) (hmb : m ≤ 255) (hsz : t.size ≤ 120) (w : World) (v : Value) (hv : RTy w t v) :
    Calls Tryd.prog 14 #[v] w fun e w' => e = .returned (.string (bs (canon t))) ∧ Keeps [] w w' := by
  obtain ⟨i, hi, hi0, hi1, hi2⟩ := info_parts infoStr
  have hmk : ∀ w : World, (Instr.makeSlice 39 (.int .i64 (m : Int)) (.int .i64 (m : Int))).run Tryd.prog w = .ok (.slice (some ⟨w.heap.size, 0, none⟩) m m) (w.alloc (.cells (madeCells #[.string ⟨#[]⟩] m) 9)) := by
    intro w
    have hb : (i.bytes : Int) * (m : Int) ≤ 281474976710656 := by rw [hi2]; omega
    have hr := run_make (P := Tryd.prog) w 39 9 i (.string ⟨#[]⟩) Tryd.underlying39 hi hi0 .i64 .i64 m m (by omega) (by omega) hb (by omega)
    simp only [Int.toNat_natCast, hi1, Nat.mul_one] at hr
    exact hr
  have HMK := Lib.hid hmk
  obtain ⟨vb, rfl⟩ := hv.ptr
  have HV := Lib.hid hv
  have HVS := Lib.hid (rvars_any 1000 (by omega) t (by omega) w.heap.size w _ (.slice none 0 0) [] hv (World.ownsRow_nil _ _ _ _) (Nat.le_refl _) (by simp; omega))
  have HM := Lib.hid hm
  clear hmk hv hm hi hi0 hi1 hi2
  go_enter Tryd.func14, Tryd.ntmps14
  go_wp2_with fail
  refine HVS.out.mono ?_
  rintro e w1 ⟨sv, rfl, hown, hki⟩
  rw [HM.out] at hown
  have hlr : (List.range m).length = m := by simp
  rw [hlr] at hown
  obtain ⟨ad, cap, rfl, hcell⟩ := ownsRow_shape hown
  have HCE := Lib.hid hcell
  have HK1 := Lib.hid hki.keeps
  have HV1 := Lib.hid (hki.kr.ty HV.out)
  clear hown hcell hki hlr
  go_wp2_with fail
  go_loopg [4, 14] m (fun gg mo i wx => ∃ j : Nat, gg = m - j ∧ i = .int .i64 j ∧ j ≤ m ∧ mo = .int .i64 j ∧ w1 = wx)
  case atStart => exact ⟨0, rfl, rfl, by omega, rfl, rfl⟩
  case round =>
    obtain ⟨j, hgj, rfl, hj, rfl, rfl⟩ := hrel
    have HGJ := Lib.hid hgj
    clear hgj
    by_cases hlt : j < m
    · obtain ⟨g, rfl, hc⟩ := HCE.out j hlt
      have hc' : w1.cell? ⟨g, j, none⟩ = some (.int .i64 j) := by rw [hc]; simp [iVs, hlt]
      have hdl : decide ((j : Int) < (m : Int)) = true := by simpa using hlt
      clear hc
      go_wp2_with fail
      go_roundg (m - (j + 1))
      case measure => have := HGJ.out; omega
      case rel => exact ⟨j + 1, rfl, by go_num, by omega, by go_num, rfl⟩
    · have hdl : decide ((j : Int) < (m : Int)) = false := by simpa using hlt
      obtain rfl : j = m := by omega
      have hmk := HMK.out w1
      go_wp2_with fail
      clear hmk
      have hk2 := (Keeps.refl [] w1).alloc (.cells (madeCells #[.string ⟨#[]⟩] j) 9)
      have hL : LettersAt (w1.alloc (.cells (madeCells #[.string ⟨#[]⟩] j) 9)) w1.heap.size j 0 := ⟨_, block_alloc _ _, size_madeCells _ _, fun q hq => ⟨_, madeStr j q hq⟩, fun q hq => by omega⟩
      have HL := Lib.hid hL
      have HK2 := Lib.hid hk2
      have hz2 : w1.heap.size < (w1.alloc (.cells (madeCells #[.string ⟨#[]⟩] j) 9)).heap.size := by simp
      clear hL hk2 hdl hlt hj HGJ
      revert HL HK2 hz2
      generalize w1.alloc (.cells (madeCells #[.string ⟨#[]⟩] j) 9) = w2
      intro HL HK2 hz2
      go_loopg [28] j (fun gg i wx => ∃ (q : Nat) (wr : World), wr = wx ∧ gg = j - q ∧ i = .int .i64 q ∧ q ≤ j ∧ LettersAt wr w1.heap.size j q ∧ Keeps [] w1 wr)
      case atStart => exact ⟨0, _, rfl, rfl, rfl, by omega, HL.out, HK2.out⟩
      case round =>
        obtain ⟨q, wr, rfl, hgq, rfl, hq, hlet, hk⟩ := hrel
        have HGQ := Lib.hid hgq
        have HLT := Lib.hid hlet
        have HK := Lib.hid hk
        clear hgq hlet hk
        by_cases hlt : q < j
        · obtain ⟨g, rfl, hc⟩ := HCE.out q hlt
          have hc' : wr.cell? ⟨g, q, none⟩ = some (.int .i64 q) := HK.out.cellSome (by rw [hc]; simp [iVs, hlt]) (by simp)
          have hdl : decide ((q : Int) < (j : Int)) = true := by simpa using hlt
          clear hc
          go_wp2_with fail
          refine (rletter_any q (by omega) wr).mono ?_
          rintro e w3 ⟨rfl, hk3⟩
          obtain ⟨cs, hb, hs, hall, hlets⟩ := HLT.out
          have hb3 := hk3.some hb (by simp)
          obtain ⟨x, hx⟩ := hall q hlt
          have cq : w3.cell? ⟨w1.heap.size, q, none⟩ = some (.string x) := (cell_of_block hb3 q).trans hx
          have fq := free_of_block hb3 q
          have i0 : (0 : Int) ≤ (q : Int) := by omega
          have i1 : (q : Int) < (j : Int) := by omega
          have HB3 := Lib.hid hb3
          have HALL := Lib.hid hall
          have HLS := Lib.hid hlets
          have HS := Lib.hid hs
          have HK3 := Lib.hid (HK.out.trans0 hk3)
          clear hb hs hall hlets hb3 hx hk3
          go_wp2_with fail
          go_roundg (j - (q + 1))
          case measure => have := HGQ.out; omega
          case rel =>
            refine ⟨q + 1, _, rfl, rfl, by go_num, by omega, ⟨_, block_setCell HB3.out q _, by simp [HS.out], fun p hp => ?_, fun p hp => ?_⟩, HK3.out.setCell (.inr (Nat.le_refl _)) _⟩
            · rw [Array.getElem?_setIfInBounds]
              split
              · rename_i h; subst h; rw [if_pos (by rw [HS.out]; exact hp)]; exact ⟨_, rfl⟩
              · exact HALL.out p hp
            · rw [Array.getElem?_setIfInBounds]
              split
              · rename_i h; subst h; rw [if_pos (by rw [HS.out]; exact hlt)]
              · exact HLS.out p (by omega)
        · have hdl : decide ((q : Int) < (j : Int)) = false := by simpa using hlt
          obtain rfl : q = j := by omega
          obtain ⟨cs, hb, hs, hall, hlets⟩ := HLT.out
          have hnm : NmRow wr w1.heap.size q letter t := fun u hu => by
            have hmu : u ∈ varsL t [] := (mem_varsL t [] u).2 (.inr hu)
            rw [HM.out] at hmu
            have hu' : u < q := by simpa using hmu
            exact ⟨hu', (cell_of_block hb u).trans (hlets u hu')⟩
          have HSH := Lib.hid (rshow_any w1.heap.size q q letter t (by
            exact shown_letter_len hsz fun u hu => by have := (hnm u hu).1; omega) wr _ (HK.out.kr.ty HV1.out) hnm)
          clear hb hs hall hlets hnm
          go_wp2_with fail
          refine HSH.out.mono ?_
          rintro e w4 ⟨rfl, hk4⟩
          rw [← canon_read HM.out]
          go_wp2
          go_ret
          exact ⟨rfl, (HK1.out.trans0 HK.out).trans0 hk4⟩
end Go.Proofs.YtpbplpnifjbkoaaDoor

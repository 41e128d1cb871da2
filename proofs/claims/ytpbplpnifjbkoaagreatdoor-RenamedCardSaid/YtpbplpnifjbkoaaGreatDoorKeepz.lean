/-
  plain.Canon and plain.Instance without marks; what readTyp tells.
-/
import Derived.Test.YtpbplpnifjbkoaaGreatDoorTcan
import Derived.Test.YtpbplpnifjbkoaaGreatDoorInst
import Derived.Test.YtpbplpnifjbkoaaGreatDoorTypl
import Derived.Test.YtpbplpnifjbkoaaGreatDoorBase
import Derived.Test.YtpbplpnifjbkoaaGreatDoorChecked
import Derived.Deep.RegionHeld3
namespace Go.Proofs.YtpbplpnifjbkoaaGreatDoor
open Go.RowKit

theorem readTyp_posK {s : Bytes} {f : Nat × Nat} (h : readTyp s = .error f) : f.1 = 1 ∨ f.1 = 2 ∨ f.1 = 8 := by
  by_cases hs : 300 < s.length
  · unfold readTyp at h; rw [if_pos hs] at h; cases h; exact .inl rfl
  · obtain ⟨res, hres, _⟩ := readTyp_spec s (by omega)
    rw [readTyp_eq hs hres] at h
    cases res with
    | error p => simp [finT] at h; subst h; exact .inr (.inl rfl)
    | ok q =>
      obtain ⟨x, ts⟩ := q
      simp only [finT] at h
      split at h
      · split at h
        · cases h; exact .inr (.inr rfl)
        · cases h
      · cases h; exact .inr (.inl rfl)

def CanonK (w : World) (r : Except (Nat × Nat) (Ty × List Bytes)) (e : Ending) (w' : World) : Prop :=
  Keeps [] w w' ∧ e = .returned (match r with
    | .ok q => .tuple #[.string (bs (canon q.1)), faultV 0 0 ⟨#[]⟩ 0 0]
    | .error f => .tuple #[.string ⟨#[]⟩, faultV f.1 (placeOf f) ⟨#[]⟩ 0 0])
theorem plain_canonK {a : Nat → Addr} {B : Nat} (w : World) (hG : Gl a B w) (s : ByteArray) : Calls Tryz.prog 14 #[.string s] w (CanonK w (readTyp s.data.toList)) := by
  letI : Inhabited Low := ⟨⟨w.heap.size⟩⟩
  refine (plain_canon w hG (Nat.le_refl _) s).mono ?_
  rintro e w' ⟨hk, he⟩
  exact ⟨hk.keeps (Nat.le_refl _), he⟩
def InstK (w : World) (r : Except (Nat × Nat) (List Bytes × List Bytes × List (Nat × Ty))) (e : Ending) (w' : World) : Prop :=
  Keeps [] w w' ∧ match r with
  | .ok q => ∃ sn st, e = .returned (.tuple #[sn, st, .bool false, faultV 0 0 ⟨#[]⟩ 0 0]) ∧ SRow w' w.heap.size sn (ksOf q.1) ∧ SRow w' w.heap.size st ((ksOf q.1).map (textOf q.1 q.2.1 q.2.2))
  | .error f => e = .returned (.tuple #[.slice none 0 0, .slice none 0 0, .bool true, faultV f.1 (placeOf f) ⟨#[]⟩ 0 0])
theorem plain_instK {a : Nat → Addr} {B : Nat} (w : World) (hG : Gl a B w) (s t : ByteArray) : Calls Tryz.prog 17 #[.string s, .string t] w (InstK w (instOf s.data.toList t.data.toList)) := by
  letI : Inhabited Low := ⟨⟨w.heap.size⟩⟩
  refine (plain_instance w hG (Nat.le_refl _) s t).mono ?_
  rintro e w' ⟨hk, he⟩
  exact ⟨hk.keeps (Nat.le_refl _), he⟩
/-! ### What Renamed asks -/
theorem inst_canon {s : Bytes} {q : Ty × List Bytes} (hr : readTyp s = .ok q) :
    (300 < (canon q.1).length ∧ readTyp (canon q.1) = .error (1, 0) ∧ instOf s (canon q.1) = .error (1, 0) ∧ instOf (canon q.1) s = .error (1, 0)) ∨
    ((canon q.1).length ≤ 300 ∧ readTyp (canon q.1) = .ok (q.1, (List.range q.2.length).map letter) ∧ ∃ l, instOf s (canon q.1) = .ok (q.2, (List.range q.2.length).map letter, l) ∧ instOf (canon q.1) s = .ok ((List.range q.2.length).map letter, q.2, l)) := by
  have hok : ReadOK q.1 q.2 := readTyp_ok hr
  have hc := read_canon hok
  by_cases h : 300 < (canon q.1).length
  · rw [if_pos h] at hc
    refine .inl ⟨h, hc, ?_, ?_⟩
    · simp only [instOf, hr, hc]
    · simp only [instOf, hc]
  · rw [if_neg h] at hc
    obtain ⟨l, hl⟩ := match_self q.1
    refine .inr ⟨by omega, hc, l, ?_, ?_⟩
    · simp only [instOf, hr, hc, hl]
    · simp only [instOf, hr, hc, hl]
theorem ks_gen : ksOf [[112], [113]] = [[112], [113]] := by
  unfold ksOf
  refine List.mergeSort_of_pairwise ?_
  simp
  decide
theorem shown_own {t : Ty} {ns : List Bytes} (h : ReadOK t ns) {K : Nat} (hK : ns.length ≤ K) : shown (nthN ((List.range K).map letter)) t = canon t := by
  rw [canon_shown h]
  refine shown_congr fun v hv => ?_
  have := h.lt hv
  have hv' : v < K := by omega
  simp [nthN, List.getD_eq_getElem?_getD, hv']
theorem inst_gen {ta tb : Ty} {na nb : List Bytes} (ha : ReadOK ta na) (hb : ReadOK tb nb) :
    instOf genText (specText (canon ta) (canon tb) (isArr ta)) = .error (1, 0) ∨ instOf genText (specText (canon ta) (canon tb) (isArr ta)) = .error (8, 0) ∨
    ∃ ss l, instOf genText (specText (canon ta) (canon tb) (isArr ta)) = .ok ([[112], [113]], ss, l) ∧ (ksOf [[112], [113]]).map (textOf [[112], [113]] ss l) = [canon ta, canon tb] := by
  rcases read_spec ha hb with h | h | h
  · exact .inl (by simp only [instOf, read_gen, h])
  · exact .inr (.inl (by simp only [instOf, read_gen, h]))
  · refine .inr (.inr ⟨(List.range (max na.length nb.length)).map letter, [(1, tb), (0, ta)], by simp only [instOf, read_gen, h, match_gen], ?_⟩)
    rw [ks_gen]
    have e0 : ([[112], [113]] : List Bytes).idxOf [112] = 0 := by decide
    have e1 : ([[112], [113]] : List Bytes).idxOf [113] = 1 := by decide
    simp only [List.map_cons, List.map_nil, textOf, e0, e1]
    rw [show List.lookup 0 [(1, tb), (0, ta)] = some ta from rfl, show List.lookup 1 [(1, tb), (0, ta)] = some tb from rfl]
    simp only [Option.map_some, Option.getD_some]
    rw [shown_own ha (Nat.le_max_left _ _), shown_own hb (Nat.le_max_right _ _)]
end Go.Proofs.YtpbplpnifjbkoaaGreatDoor

namespace Go.Proofs.YtpbplpnifjbkoaaGreatDoor
open Go.RowKit

theorem arrow_step (s : ByteArray) (j : Nat) (h : j + 1 < s.size) (z : Int) : arrowB (s.data.toList.drop j) z =
    if s[j].toNat = 40 ∨ s[j].toNat = 91 then arrowB (s.data.toList.drop (j + 1)) (z + 1) else if s[j].toNat = 41 ∨ s[j].toNat = 93 then arrowB (s.data.toList.drop (j + 1)) (z - 1) else if s[j].toNat = 45 ∧ z = 0 then true else arrowB (s.data.toList.drop (j + 1)) z := by
  have hl : s.data.toList.length = s.size := by rw [Array.length_toList]; rfl
  have e1 : s.data.toList.drop j = s[j] :: s.data.toList.drop (j + 1) := by rw [List.drop_eq_getElem_cons (by omega)]; rfl
  have e2 : s.data.toList.drop (j + 1) = s[j + 1] :: s.data.toList.drop (j + 1 + 1) := by rw [List.drop_eq_getElem_cons (by omega)]; rfl
  have hc : ∀ k : UInt8, s[j] = k ↔ s[j].toNat = k.toNat := fun k => ⟨fun e => by rw [e], fun e => UInt8.toNat.inj e⟩
  rw [e1, e2]
  simp only [arrowB, hc]
  rfl

set_option maxRecDepth 100000 in
set_option maxHeartbeats 4000000 in
theorem arrow_any (s : ByteArray) (hs : s.size ≤ 100000) (w : World) : Calls Tryz.prog 18 #[.string s] w fun e w' => e = .returned (.bool (arrowB s.data.toList 0)) ∧ w = w' := by
  go_enter Tryz.func18, Tryz.ntmps18
  go_wp2_with fail
  go_loopg [3, 4] s.size (fun gg o i wx => ∃ (j : Nat) (z : Int), gg = s.size - j ∧ i = .int .i64 j ∧ o = .int .i64 z ∧ j ≤ s.size ∧ -(j : Int) ≤ z ∧ z ≤ j ∧ arrowB (s.data.toList.drop j) z = arrowB s.data.toList 0 ∧ w = wx)
  case atStart => exact ⟨0, 0, rfl, rfl, rfl, by omega, by omega, by omega, rfl, rfl⟩
  case round =>
    obtain ⟨j, z, hg, rfl, rfl, hj, hz1, hz2, hB, rfl⟩ := hrel
    have HG := Lib.hid hg
    have HB := Lib.hid hB
    clear hg hB
    by_cases hlt : j + 1 < s.size
    · have hd : decide ((j : Int) + 1 < (s.size : Int)) = true := by simp; omega
      have hjl : (j : Int) < (s.size : Int) := by omega
      have HS := Lib.hid (arrow_step s j hlt z)
      go_wp2_with fail
      all_goals first
        | (go_roundg (s.size - (j + 1))
           case measure => have := HG.out; omega
           case rel =>
             refine ⟨j + 1, _, rfl, by go_num, rfl, by omega, by omega, by omega, ?_, rfl⟩
             rw [← HB.out, HS.out]
             simp only [beq_iff_eq, beq_eq_false_iff_ne, ne_eq] at *
             split
             · first | rfl | omega
             · split
               · first | rfl | omega
               · split
                 · first | rfl | omega
                 · first | rfl | omega)
        | (go_ret
           refine ⟨?_, rfl⟩
           rw [← HB.out, HS.out]
           simp only [beq_iff_eq, beq_eq_false_iff_ne, ne_eq] at *
           split
           · first | rfl | omega
           · split
             · first | rfl | omega
             · split
               · first | rfl | omega
               · first | rfl | omega)
    · have hd : decide ((j : Int) + 1 < (s.size : Int)) = false := by simp; omega
      have hl : s.data.toList.length = s.size := by rw [Array.length_toList]; rfl
      have hend : arrowB (s.data.toList.drop j) z = false := by
        have : (s.data.toList.drop j).length ≤ 1 := by simp [hl]; omega
        match s.data.toList.drop j, this with
        | [], _ => rfl
        | [_], _ => rfl
      have HE := Lib.hid hend
      clear hend hl
      go_wp2_with fail
      go_ret
      exact ⟨by rw [← HB.out, HE.out]; rfl, rfl⟩
end Go.Proofs.YtpbplpnifjbkoaaGreatDoor

namespace Go.Proofs.YtpbplpnifjbkoaaGreatDoor
open Go.RowKit

/-- "q -> q" and "a -> a". -/
def qqText : Bytes := [113, 32, 45, 62, 32, 113]
def aaText : Bytes := [97, 32, 45, 62, 32, 97]
theorem read_qq : readTyp qqText = .ok (.arr (.var 0) (.var 0), [[113]]) := by
  have : (match readTyp qqText with | .ok q => decide (q = (.arr (.var 0) (.var 0), [[113]])) | .error _ => false) = true := by decide +kernel
  revert this
  cases readTyp qqText with
  | error f => simp
  | ok q => simp
theorem canon_qq : canon (.arr (.var 0) (.var 0)) = aaText := by
  have h : ReadOK (.arr (.var 0) (.var 0)) [[113]] := readTyp_ok read_qq
  rw [canon_shown h]
  simp only [shown, isArr, letter_few (show 0 < 2600 by omega)]
  decide

theorem shown_le (nm : Nat → Bytes) (t : Ty) (hn : ∀ v, t.has v → (nm v).length ≤ 8) : (shown nm t).length ≤ 16 * t.size := by
  induction t with
  | var n => have := hn n rfl; simp only [shown, Ty.size]; omega
  | int => simp [shown, Ty.size]
  | bool => simp [shown, Ty.size]
  | list a ih => have := ih hn; simp only [shown, Ty.size, List.length_append, List.length_cons, List.length_nil]; omega
  | pair a b iha ihb => have := iha fun v h => hn v (.inl h); have := ihb fun v h => hn v (.inr h); simp only [shown, Ty.size, List.length_append, List.length_cons, List.length_nil]; omega
  | arr a b iha ihb =>
    have := iha fun v h => hn v (.inl h)
    have := ihb fun v h => hn v (.inr h)
    simp only [shown, Ty.size, List.length_append, List.length_cons, List.length_nil]
    split <;> simp [par] <;> omega
theorem canon_le {t : Ty} {ns : List Bytes} (h : ReadOK t ns) : (canon t).length ≤ 1920 := by
  rw [canon_shown h]
  have := shown_le letter t fun v hv => (letter_ok (by have := h.lt hv; have := h.few; omega)).1.2.2.1
  have := h.size
  omega
set_option maxRecDepth 100000 in
set_option maxHeartbeats 8000000 in
theorem renamed_law {a : Nat → Addr} {B : Nat} (w : World) (hG : Gl a B w) (s s1 s2 : ByteArray) : Calls Tryz.prog 4 #[.string s, .string s1, .string s2] w fun e w' => e = .returned (.bool true) ∧ Keeps [] w w' := by
  have HG := Lib.hid hG
  clear hG
  go_enter Tryz.func4, Tryz.ntmps4
  go_wp2_with fail
  refine (plain_canonK w HG.out ⟨#[113, 32, 45, 62, 32, 113]⟩).mono ?_
  rintro e w1 ⟨hk, h⟩
  rw [show readTyp (⟨#[113, 32, 45, 62, 32, 113]⟩ : ByteArray).data.toList = .ok (.arr (.var 0) (.var 0), [[113]]) from read_qq] at h
  simp only [canon_qq] at h
  obtain rfl := h
  have K1 := Lib.hid hk
  have hqa : ((bs aaText).toList == [97, 32, 45, 62, 32, 97]) = true := by rw [ByteArray.toList_eq, bs_data]; decide
  clear hk
  have KA := Lib.hid (K1.out.alloc (.cells #[.int .i64 0, .int .i64 0, .string ⟨#[]⟩, .int .i64 0, .int .i64 0] 28))
  go_wp2_with fail
  refine (plain_canonK _ (HG.out.below (KA.out.below HG.out.hi (by simp))) s).mono ?_
  rintro e w2 ⟨hk, h⟩
  have K2 := Lib.hid (KA.out.trans0 hk)
  clear hk KA
  cases hr : readTyp s.data.toList with
  | error f =>
    rw [hr] at h
    obtain rfl := h
    have hp := readTyp_posK hr
    obtain ⟨f1, f2⟩ := f
    have hne : ((f1 : Int) != 0) = true := by
      have : f1 ≠ 0 := by rcases hp with h | h | h <;> (simp at h; omega)
      simp; omega
    clear hr
    go_wp2_with fail
    go_ret
    exact ⟨rfl, K2.out.alloc _⟩
  | ok q =>
    rw [hr] at h
    obtain rfl := h
    have HR := Lib.hid hr
    have HOK := Lib.hid (readTyp_ok hr)
    have KB := Lib.hid (K2.out.alloc (.cells #[.int .i64 0, .int .i64 0, .string ⟨#[]⟩, .int .i64 0, .int .i64 0] 28))
    have hb2 := block_alloc w2 (.cells #[.int .i64 0, .int .i64 0, .string ⟨#[]⟩, .int .i64 0, .int .i64 0] 28)
    have HB2 := Lib.hid hb2
    have HGB := Lib.hid (HG.out.below (KB.out.below HG.out.hi (by simp)))
    clear hr hb2 hqa
    go_wp2_with fail
    refine (plain_canonK _ HGB.out (bs (canon q.1))).mono ?_
    rintro e w3 ⟨hk, h⟩
    rw [bs_data] at h
    have K3 := Lib.hid (KB.out.trans0 hk)
    have hf3 := hk.some HB2.out (by simp)
    have HF3 := Lib.hid hf3
    have G3 := Lib.hid (HG.out.below (K3.out.below HG.out.hi (by simp)))
    have r0 := cell_of_block hf3 0
    have r1 := cell_of_block hf3 1
    have r2 := cell_of_block hf3 2
    have r3 := cell_of_block hf3 3
    have r4 := cell_of_block hf3 4
    have y0 := free_of_block hf3 0
    have y1 := free_of_block hf3 1
    have y2 := free_of_block hf3 2
    have y3 := free_of_block hf3 3
    have y4 := free_of_block hf3 4
    clear hk hf3 KB HGB HB2
    rcases inst_canon HR.out with ⟨hlong, hrc, hi1, hi2⟩ | ⟨hshort, hrc, l, hi1, hi2⟩
    · rw [hrc] at h
      obtain rfl := h
      have HI1 := Lib.hid hi1
      have HI2 := Lib.hid hi2
      clear hrc hi1 hi2
      have hle2 : w.heap.size ≤ w2.heap.size := K2.out.size
      have KV : Keeps [] w (((((w3.setCell ⟨w2.heap.size, 0, none⟩ (.int .i64 1)).setCell ⟨w2.heap.size, 1, none⟩ (.int .i64 (placeOf (1, 0) : Nat))).setCell ⟨w2.heap.size, 2, none⟩ (.string ⟨#[]⟩)).setCell ⟨w2.heap.size, 3, none⟩ (.int .i64 0)).setCell ⟨w2.heap.size, 4, none⟩ (.int .i64 0)) := (((((K3.out.setCell (.inr hle2) _).setCell (.inr hle2) _).setCell (.inr hle2) _).setCell (.inr hle2) _).setCell (.inr hle2) _)
      have KV3 := Lib.hid KV
      have GV3 := Lib.hid (HG.out.below (KV.below HG.out.hi (by simp)))
      have hgt : decide (((bs (canon q.1)).size : Int) > 300) = true := by simp [bs_size]; omega
      clear KV
      go_wp2_with fail
      refine (plain_instK _ GV3.out s (bs (canon q.1))).mono ?_
      rintro e w4 ⟨hk, h⟩
      rw [bs_data, HI1.out] at h
      obtain rfl := h
      have K4 := Lib.hid ((KV3.out.trans0 hk).alloc (.cells #[.int .i64 (1 : Nat), .int .i64 (placeOf (1, 0) : Nat), .string ⟨#[]⟩, .int .i64 0, .int .i64 0] 28))
      have G4 := Lib.hid (HG.out.below (K4.out.below HG.out.hi (by simp)))
      clear hk r0 r1 r2 r3 r4 y0 y1 y2 y3 y4
      go_wp2_with fail
      refine (plain_instK _ G4.out (bs (canon q.1)) s).mono ?_
      rintro e w5 ⟨hk, h⟩
      rw [bs_data, HI2.out] at h
      obtain rfl := h
      have K5 := Lib.hid ((K4.out.trans0 hk).alloc (.cells #[.int .i64 (1 : Nat), .int .i64 (placeOf (1, 0) : Nat), .string ⟨#[]⟩, .int .i64 0, .int .i64 0] 28))
      clear hk
      go_wp2_with fail
      go_ret
      exact ⟨rfl, K5.out⟩
    · rw [hrc] at h
      obtain rfl := h
      have HI1 := Lib.hid hi1
      have HI2 := Lib.hid hi2
      clear hrc hi1 hi2
      have hle2 : w.heap.size ≤ w2.heap.size := K2.out.size
      have KV : Keeps [] w (((((w3.setCell ⟨w2.heap.size, 0, none⟩ (.int .i64 0)).setCell ⟨w2.heap.size, 1, none⟩ (.int .i64 0)).setCell ⟨w2.heap.size, 2, none⟩ (.string ⟨#[]⟩)).setCell ⟨w2.heap.size, 3, none⟩ (.int .i64 0)).setCell ⟨w2.heap.size, 4, none⟩ (.int .i64 0)) := (((((K3.out.setCell (.inr hle2) _).setCell (.inr hle2) _).setCell (.inr hle2) _).setCell (.inr hle2) _).setCell (.inr hle2) _)
      have KV3 := Lib.hid KV
      have GV3 := Lib.hid (HG.out.below (KV.below HG.out.hi (by simp)))
      have hfb := (block_setCell (block_setCell (block_setCell (block_setCell (block_setCell HF3.out 0 (.int .i64 0)) 1 (.int .i64 0)) 2 (.string ⟨#[]⟩)) 3 (.int .i64 0)) 4 (.int .i64 0))
      have HFB := Lib.hid hfb
      have hgt : decide (((bs (canon q.1)).size : Int) > 300) = false := by simp [bs_size]; omega
      clear KV hfb
      go_wp2_with fail
      refine (plain_instK _ GV3.out s (bs (canon q.1))).mono ?_
      rintro e w4 ⟨hk, h⟩
      rw [bs_data, HI1.out] at h
      obtain ⟨sn1, st1, rfl, hsn1, hst1⟩ := h
      obtain ⟨ad1, cap1, rfl, _⟩ := hsn1
      obtain ⟨ad2, cap2, rfl, _⟩ := hst1
      have hf4 := hk.some HFB.out (by simp)
      have hf4' := hf4
      have HF4 := Lib.hid (block_alloc_old (o' := (.cells #[.int .i64 0, .int .i64 0, .string ⟨#[]⟩, .int .i64 0, .int .i64 0] 28)) hf4)
      have HG4 := Lib.hid (block_alloc w4 (.cells #[.int .i64 0, .int .i64 0, .string ⟨#[]⟩, .int .i64 0, .int .i64 0] 28))
      have K4 := Lib.hid ((KV3.out.trans0 hk).alloc (.cells #[.int .i64 0, .int .i64 0, .string ⟨#[]⟩, .int .i64 0, .int .i64 0] 28))
      have G4 := Lib.hid (HG.out.below (K4.out.below HG.out.hi (by simp)))
      clear hk r0 r1 r2 r3 r4 y0 y1 y2 y3 y4 hf4
      go_wp2_with fail
      refine (plain_instK _ G4.out (bs (canon q.1)) s).mono ?_
      rintro e w5 ⟨hk, h⟩
      rw [bs_data, HI2.out] at h
      obtain ⟨sn2, st2, rfl, hsn2, hst2⟩ := h
      obtain ⟨ad3, cap3, rfl, _⟩ := hsn2
      obtain ⟨ad4, cap4, rfl, _⟩ := hst2
      have HF5 := Lib.hid (block_alloc_old (o' := (.cells #[.int .i64 0, .int .i64 0, .string ⟨#[]⟩, .int .i64 0, .int .i64 0] 28)) (hk.some HF4.out (by simp)))
      have hg5' := hk.some HG4.out (by simp)
      have HG5 := Lib.hid (block_alloc_old (o' := (.cells #[.int .i64 0, .int .i64 0, .string ⟨#[]⟩, .int .i64 0, .int .i64 0] 28)) (hk.some HG4.out (by simp)))
      have HH5 := Lib.hid (block_alloc w5 (.cells #[.int .i64 0, .int .i64 0, .string ⟨#[]⟩, .int .i64 0, .int .i64 0] 28))
      have K5 := Lib.hid ((K4.out.trans0 hk).alloc (.cells #[.int .i64 0, .int .i64 0, .string ⟨#[]⟩, .int .i64 0, .int .i64 0] 28))
      have e1 : (ksOf q.2).length = q.2.length := List.length_mergeSort _
      have e2 : (ksOf ((List.range q.2.length).map letter)).length = q.2.length := by rw [show (ksOf ((List.range q.2.length).map letter)).length = ((List.range q.2.length).map letter).length from List.length_mergeSort _]; simp
      clear hk
      simp only [List.length_map, e1, e2]
      have GV5 := Lib.hid (HG.out.below (K5.out.below HG.out.hi (by simp)))
      have f0 : (w5.alloc (.cells #[.int .i64 0, .int .i64 0, .string ⟨#[]⟩, .int .i64 0, .int .i64 0] 28)).cell? ⟨w2.heap.size, 0, none⟩ = some (.int .i64 0) := cell_of_block HF5.out 0
      have g0 : (w5.alloc (.cells #[.int .i64 0, .int .i64 0, .string ⟨#[]⟩, .int .i64 0, .int .i64 0] 28)).cell? ⟨w4.heap.size, 0, none⟩ = some (.int .i64 0) := cell_of_block HG5.out 0
      have h0 : (w5.alloc (.cells #[.int .i64 0, .int .i64 0, .string ⟨#[]⟩, .int .i64 0, .int .i64 0] 28)).cell? ⟨w5.heap.size, 0, none⟩ = some (.int .i64 0) := cell_of_block HH5.out 0
      have hlf : w2.heap.size < w4.heap.size := lt_of_some hf4'
      have hlg : w4.heap.size < w5.heap.size := lt_of_some hg5'
      clear HF4 HG4 KV3 GV3 G4 K4 HFB HF3 G3 K3 HI1 HI2 e1 e2
      go_wp2_with fail
      refine (plain_canonK _ GV5.out s1).mono ?_
      rintro e w6 ⟨hk, h⟩
      have hf6 := hk.some HF5.out (by simp)
      have hg6 := hk.some HG5.out (by simp)
      have hh6 := hk.some HH5.out (by simp)
      have K6 := Lib.hid (K5.out.trans0 hk)
      have HF6 := Lib.hid hf6
      have HG6 := Lib.hid hg6
      have HH6 := Lib.hid hh6
      have r0 := cell_of_block hg6 0
      have r1 := cell_of_block hg6 1
      have r2 := cell_of_block hg6 2
      have r3 := cell_of_block hg6 3
      have r4 := cell_of_block hg6 4
      have y0 := free_of_block hg6 0
      have y1 := free_of_block hg6 1
      have y2 := free_of_block hg6 2
      have y3 := free_of_block hg6 3
      have y4 := free_of_block hg6 4
      simp at r0 r1 r2 r3 r4
      clear hk hf6 hg6 hh6 f0 g0 h0
      obtain ⟨xa, fa, pa, hpa, hca⟩ : ∃ (xa : Bytes) (fa pa : Nat), e = .returned (.tuple #[.string (bs xa), faultV fa pa ⟨#[]⟩ 0 0]) ∧ ((fa ≠ 0) ∨ (fa = 0 ∧ pa = 0 ∧ ∃ qa, readTyp s1.data.toList = .ok qa ∧ xa = canon qa.1)) := by
        cases hr : readTyp s1.data.toList with
        | error f => rw [hr] at h; exact ⟨[], f.1, placeOf f, h, .inl (by rcases readTyp_posK hr with h | h | h <;> omega)⟩
        | ok qa => rw [hr] at h; exact ⟨canon qa.1, 0, 0, h, .inr ⟨rfl, rfl, qa, rfl, rfl⟩⟩
      subst hpa
      clear h
      have HCA := Lib.hid hca
      clear hca
      have hle4 : w.heap.size ≤ w4.heap.size := by
        have := K6.out.size
        omega
      have KV6 := Lib.hid (show Keeps [] w (((((w6.setCell ⟨w4.heap.size, 0, none⟩ (.int .i64 (fa : Nat))).setCell ⟨w4.heap.size, 1, none⟩ (.int .i64 (pa : Nat))).setCell ⟨w4.heap.size, 2, none⟩ (.string ⟨#[]⟩)).setCell ⟨w4.heap.size, 3, none⟩ (.int .i64 0)).setCell ⟨w4.heap.size, 4, none⟩ (.int .i64 0)) from (((((K6.out.setCell (.inr hle4) _).setCell (.inr hle4) _).setCell (.inr hle4) _).setCell (.inr hle4) _).setCell (.inr hle4) _))
      have KW6 : Keeps [w4.heap.size] w6 (((((w6.setCell ⟨w4.heap.size, 0, none⟩ (.int .i64 (fa : Nat))).setCell ⟨w4.heap.size, 1, none⟩ (.int .i64 (pa : Nat))).setCell ⟨w4.heap.size, 2, none⟩ (.string ⟨#[]⟩)).setCell ⟨w4.heap.size, 3, none⟩ (.int .i64 0)).setCell ⟨w4.heap.size, 4, none⟩ (.int .i64 0)) := ((((((Keeps.refl [w4.heap.size] w6).setCell (.inl (by simp)) _).setCell (.inl (by simp)) _).setCell (.inl (by simp)) _).setCell (.inl (by simp)) _).setCell (.inl (by simp)) _)
      have hf6v := KW6.some HF6.out (by simp; omega)
      have hh6v := KW6.some HH6.out (by simp; omega)
      have hg6v := (block_setCell (block_setCell (block_setCell (block_setCell (block_setCell HG6.out 0 (.int .i64 (fa : Nat))) 1 (.int .i64 (pa : Nat))) 2 (.string ⟨#[]⟩)) 3 (.int .i64 0)) 4 (.int .i64 0))
      have GV6 := Lib.hid (HG.out.below (KV6.out.below HG.out.hi (by simp)))
      have HF6V := Lib.hid hf6v
      have HH6V := Lib.hid hh6v
      have HG6V := Lib.hid hg6v
      clear KW6 hf6v hh6v hg6v
      go_wp2_with fail
      refine (plain_canonK _ GV6.out s2).mono ?_
      rintro e w7 ⟨hk, h⟩
      have hf7 := hk.some HF6V.out (by simp)
      have hg7 := hk.some HG6V.out (by simp)
      have hh7 := hk.some HH6V.out (by simp)
      have K7 := Lib.hid (KV6.out.trans0 hk)
      clear r0 r1 r2 r3 r4 y0 y1 y2 y3 y4 hk
      have r0 := cell_of_block hh7 0
      have r1 := cell_of_block hh7 1
      have r2 := cell_of_block hh7 2
      have r3 := cell_of_block hh7 3
      have r4 := cell_of_block hh7 4
      have y0 := free_of_block hh7 0
      have y1 := free_of_block hh7 1
      have y2 := free_of_block hh7 2
      have y3 := free_of_block hh7 3
      have y4 := free_of_block hh7 4
      simp at r0 r1 r2 r3 r4
      obtain ⟨xb, fb, pb, hpb, hcb⟩ : ∃ (xb : Bytes) (fb pb : Nat), e = .returned (.tuple #[.string (bs xb), faultV fb pb ⟨#[]⟩ 0 0]) ∧ ((fb ≠ 0) ∨ (fb = 0 ∧ pb = 0 ∧ ∃ qb, readTyp s2.data.toList = .ok qb ∧ xb = canon qb.1)) := by
        cases hr : readTyp s2.data.toList with
        | error f => rw [hr] at h; exact ⟨[], f.1, placeOf f, h, .inl (by rcases readTyp_posK hr with h | h | h <;> omega)⟩
        | ok qb => rw [hr] at h; exact ⟨canon qb.1, 0, 0, h, .inr ⟨rfl, rfl, qb, rfl, rfl⟩⟩
      subst hpb
      clear h
      have HCB := Lib.hid hcb
      have hle5 : w.heap.size ≤ w5.heap.size := by omega
      have KV7 := Lib.hid (show Keeps [] w (((((w7.setCell ⟨w5.heap.size, 0, none⟩ (.int .i64 (fb : Nat))).setCell ⟨w5.heap.size, 1, none⟩ (.int .i64 (pb : Nat))).setCell ⟨w5.heap.size, 2, none⟩ (.string ⟨#[]⟩)).setCell ⟨w5.heap.size, 3, none⟩ (.int .i64 0)).setCell ⟨w5.heap.size, 4, none⟩ (.int .i64 0)) from (((((K7.out.setCell (.inr hle5) _).setCell (.inr hle5) _).setCell (.inr hle5) _).setCell (.inr hle5) _).setCell (.inr hle5) _))
      have KW7 : Keeps [w5.heap.size] w7 (((((w7.setCell ⟨w5.heap.size, 0, none⟩ (.int .i64 (fb : Nat))).setCell ⟨w5.heap.size, 1, none⟩ (.int .i64 (pb : Nat))).setCell ⟨w5.heap.size, 2, none⟩ (.string ⟨#[]⟩)).setCell ⟨w5.heap.size, 3, none⟩ (.int .i64 0)).setCell ⟨w5.heap.size, 4, none⟩ (.int .i64 0)) := ((((((Keeps.refl [w5.heap.size] w7).setCell (.inl (by simp)) _).setCell (.inl (by simp)) _).setCell (.inl (by simp)) _).setCell (.inl (by simp)) _).setCell (.inl (by simp)) _)
      have HF7V := Lib.hid (KW7.some hf7 (by simp; omega))
      have HG7V := Lib.hid (KW7.some hg7 (by simp; omega))
      have HH7V := Lib.hid (block_setCell (block_setCell (block_setCell (block_setCell (block_setCell hh7 0 (.int .i64 (fb : Nat))) 1 (.int .i64 (pb : Nat))) 2 (.string ⟨#[]⟩)) 3 (.int .i64 0)) 4 (.int .i64 0))
      have g0 : ((((((w7.setCell ⟨w5.heap.size, 0, none⟩ (.int .i64 (fb : Nat))).setCell ⟨w5.heap.size, 1, none⟩ (.int .i64 (pb : Nat))).setCell ⟨w5.heap.size, 2, none⟩ (.string ⟨#[]⟩)).setCell ⟨w5.heap.size, 3, none⟩ (.int .i64 0)).setCell ⟨w5.heap.size, 4, none⟩ (.int .i64 0))).cell? ⟨w4.heap.size, 0, none⟩ = some (.int .i64 (fa : Nat)) := (cell_of_block HG7V.out 0).trans (by simp)
      have h0 : ((((((w7.setCell ⟨w5.heap.size, 0, none⟩ (.int .i64 (fb : Nat))).setCell ⟨w5.heap.size, 1, none⟩ (.int .i64 (pb : Nat))).setCell ⟨w5.heap.size, 2, none⟩ (.string ⟨#[]⟩)).setCell ⟨w5.heap.size, 3, none⟩ (.int .i64 0)).setCell ⟨w5.heap.size, 4, none⟩ (.int .i64 0))).cell? ⟨w5.heap.size, 0, none⟩ = some (.int .i64 (fb : Nat)) := (cell_of_block HH7V.out 0).trans (by simp)
      clear hcb hf7 hg7 hh7 KW7 K7 HF6 HG6 HH6 HF6V HG6V HH6V GV6 KV6 K6 HF5 HG5 HH5 K5 GV5
      rcases HCA.out with hfa | ⟨hfa, hpa, qa, hra, rfl⟩
      · have hna : ((fa : Int) != 0) = true := by simp; omega
        go_wp2_with fail
        go_ret
        exact ⟨rfl, KV7.out⟩
      · have hna : ((fa : Int) != 0) = false := by simp [hfa]
        rcases HCB.out with hfb | ⟨hfb, hpb, qb, hrb, rfl⟩
        · have hnb : ((fb : Int) != 0) = true := by simp; omega
          clear hfa hpa hra
          go_wp2_with fail
          go_ret
          exact ⟨rfl, KV7.out⟩
        · have hnb : ((fb : Int) != 0) = false := by simp [hfb]
          have HQA := Lib.hid (readTyp_ok hra)
          have HQB := Lib.hid (readTyp_ok hrb)
          have GV7 := Lib.hid (HG.out.below (KV7.out.below HG.out.hi (by simp)))
          clear hfa hpa hra hfb hpb hrb
          have hla := canon_le HQA.out
          have hlb := canon_le HQB.out
          have HAR := Lib.hid (arrow_any (bs (canon qa.1)) (by simp only [bs_size]; omega))
          have har := arrow_canon HQA.out
          go_wp2_with fail
          refine (HAR.out _).mono ?_
          rintro e w8 ⟨rfl, rfl⟩
          rw [bs_data, har]
          clear har
          by_cases hia : isArr qa.1 = true
          · rw [hia]
            have s0 : ¬ 9223372036854775807 < 1 + (bs (canon qa.1)).size := by simp only [bs_size]; omega
            have s1 : ¬ 9223372036854775807 < 1 + (bs (canon qa.1)).size + 1 := by simp only [bs_size]; omega
            have s2 : ¬ 9223372036854775807 < 1 + (bs (canon qa.1)).size + 1 + 5 := by simp only [bs_size]; omega
            have s3 : ¬ 9223372036854775807 < 1 + (bs (canon qa.1)).size + 1 + 5 + (bs (canon qb.1)).size := by simp only [bs_size]; omega
            have s4 : ¬ 9223372036854775807 < 1 + (bs (canon qa.1)).size + 1 + 5 + (bs (canon qb.1)).size + 3 := by simp only [bs_size]; omega
            have s5 : ¬ 9223372036854775807 < 1 + (bs (canon qa.1)).size + 1 + 5 + (bs (canon qb.1)).size + 3 + (bs (canon qa.1)).size := by simp only [bs_size]; omega
            have s6 : ¬ 9223372036854775807 < 1 + (bs (canon qa.1)).size + 1 + 5 + (bs (canon qb.1)).size + 3 + (bs (canon qa.1)).size + 2 := by simp only [bs_size]; omega
            clear hla hlb
            go_wp2_with fail
            have HTXT : (({ data := #[40] } : ByteArray) ++ bs (canon qa.1) ++ { data := #[41] } ++ { data := #[32, 45, 62, 32, 40] } ++ bs (canon qb.1) ++ { data := #[44, 32, 91] } ++ bs (canon qa.1) ++ { data := #[93, 41] }).data.toList = specText (canon qa.1) (canon qb.1) (isArr qa.1) := by simp [specText, bs, hia]
            refine (plain_instK _ GV7.out _ _).mono ?_
            rintro e w9 ⟨hk, h⟩
            have hf9 := hk.some HF7V.out (by simp)
            have K9 := Lib.hid (KV7.out.trans0 hk)
            have r0 := cell_of_block hf9 0
            have r1 := cell_of_block hf9 1
            have r2 := cell_of_block hf9 2
            have r3 := cell_of_block hf9 3
            have r4 := cell_of_block hf9 4
            have y0 := free_of_block hf9 0
            have y1 := free_of_block hf9 1
            have y2 := free_of_block hf9 2
            have y3 := free_of_block hf9 3
            have y4 := free_of_block hf9 4
            simp at r0 r1 r2 r3 r4
            rw [show (⟨#[112, 32, 45, 62, 32, 40, 113, 44, 32, 91, 112, 93, 41]⟩ : ByteArray).data.toList = genText from rfl, HTXT] at h
            have HF9 := Lib.hid hf9
            clear hk hf9 g0 h0 s0 s1 s2 s3 s4 s5 s6
            rcases inst_gen HQA.out HQB.out with hi | hi | ⟨ss, l2, hi, hm⟩
            · rw [hi] at h
              obtain rfl := h
              clear hi
              have KV9 := Lib.hid (show Keeps [] w (((((w9.setCell ⟨w2.heap.size, 0, none⟩ (.int .i64 1)).setCell ⟨w2.heap.size, 1, none⟩ (.int .i64 (placeOf (1, 0) : Nat))).setCell ⟨w2.heap.size, 2, none⟩ (.string ⟨#[]⟩)).setCell ⟨w2.heap.size, 3, none⟩ (.int .i64 0)).setCell ⟨w2.heap.size, 4, none⟩ (.int .i64 0)) from (((((K9.out.setCell (.inr hle2) _).setCell (.inr hle2) _).setCell (.inr hle2) _).setCell (.inr hle2) _).setCell (.inr hle2) _))
              go_wp2_with fail
              go_ret
              exact ⟨rfl, KV9.out⟩
            · rw [hi] at h
              obtain rfl := h
              clear hi
              have KV9 := Lib.hid (show Keeps [] w (((((w9.setCell ⟨w2.heap.size, 0, none⟩ (.int .i64 8)).setCell ⟨w2.heap.size, 1, none⟩ (.int .i64 (placeOf (8, 0) : Nat))).setCell ⟨w2.heap.size, 2, none⟩ (.string ⟨#[]⟩)).setCell ⟨w2.heap.size, 3, none⟩ (.int .i64 0)).setCell ⟨w2.heap.size, 4, none⟩ (.int .i64 0)) from (((((K9.out.setCell (.inr hle2) _).setCell (.inr hle2) _).setCell (.inr hle2) _).setCell (.inr hle2) _).setCell (.inr hle2) _))
              go_wp2_with fail
              go_ret
              exact ⟨rfl, KV9.out⟩
            · rw [hi] at h
              obtain ⟨sn, st, rfl, hsn, hst⟩ := h
              rw [ks_gen] at hsn
              rw [hm] at hst
              obtain ⟨an, cn, rfl, hcn⟩ := hsn
              obtain ⟨atx, ct, rfl, hct⟩ := hst
              have hlf7 := lt_of_some HF7V.out
              obtain ⟨gn, hgn, rfl, n0⟩ := hcn 0 _ rfl
              obtain ⟨_, _, e1, n1⟩ := hcn 1 _ rfl
              cases e1
              obtain ⟨gt, hgt9, rfl, t0⟩ := hct 0 _ rfl
              obtain ⟨_, _, e2, t1⟩ := hct 1 _ rfl
              cases e2
              unfold sV at n0 n1 t0 t1
              have KV9 := Lib.hid (show Keeps [] w (((((w9.setCell ⟨w2.heap.size, 0, none⟩ (.int .i64 0)).setCell ⟨w2.heap.size, 1, none⟩ (.int .i64 0)).setCell ⟨w2.heap.size, 2, none⟩ (.string ⟨#[]⟩)).setCell ⟨w2.heap.size, 3, none⟩ (.int .i64 0)).setCell ⟨w2.heap.size, 4, none⟩ (.int .i64 0)) from (((((K9.out.setCell (.inr hle2) _).setCell (.inr hle2) _).setCell (.inr hle2) _).setCell (.inr hle2) _).setCell (.inr hle2) _))
              have KU9 : Keeps [w2.heap.size] w9 (((((w9.setCell ⟨w2.heap.size, 0, none⟩ (.int .i64 0)).setCell ⟨w2.heap.size, 1, none⟩ (.int .i64 0)).setCell ⟨w2.heap.size, 2, none⟩ (.string ⟨#[]⟩)).setCell ⟨w2.heap.size, 3, none⟩ (.int .i64 0)).setCell ⟨w2.heap.size, 4, none⟩ (.int .i64 0)) := ((((((Keeps.refl [w2.heap.size] w9).setCell (.inl (by simp)) _).setCell (.inl (by simp)) _).setCell (.inl (by simp)) _).setCell (.inl (by simp)) _).setCell (.inl (by simp)) _)
              have u0 := KU9.cellSome n0 (fun h => by simp only [List.mem_singleton] at h; omega)
              have u1 := KU9.cellSome n1 (fun h => by simp only [List.mem_singleton] at h; omega)
              have x0 := KU9.cellSome t0 (fun h => by simp only [List.mem_singleton] at h; omega)
              have x1 := KU9.cellSome t1 (fun h => by simp only [List.mem_singleton] at h; omega)
              have z0 : ((((((w9.setCell ⟨w2.heap.size, 0, none⟩ (.int .i64 0)).setCell ⟨w2.heap.size, 1, none⟩ (.int .i64 0)).setCell ⟨w2.heap.size, 2, none⟩ (.string ⟨#[]⟩)).setCell ⟨w2.heap.size, 3, none⟩ (.int .i64 0)).setCell ⟨w2.heap.size, 4, none⟩ (.int .i64 0))).cell? ⟨w2.heap.size, 0, none⟩ = some (.int .i64 0) := (cell_of_block (block_setCell (block_setCell (block_setCell (block_setCell (block_setCell HF9.out 0 (.int .i64 0)) 1 (.int .i64 0)) 2 (.string ⟨#[]⟩)) 3 (.int .i64 0)) 4 (.int .i64 0)) 0).trans (by simp)
              have hp : ((bs [112]).toList == [112]) = true := by rw [ByteArray.toList_eq, bs_data]; decide
              have hq : ((bs [113]).toList == [113]) = true := by rw [ByteArray.toList_eq, bs_data]; decide
              have el1 : ([[112], [113]] : List Bytes).length = 2 := rfl
              have el2 : ([canon qa.1, canon qb.1] : List Bytes).length = 2 := rfl
              rw [el1, el2]
              clear hi hm hcn hct KU9 n0 n1 t0 t1 el1 el2 hgn hgt9
              go_wp2_with fail
              go_ret
              exact ⟨rfl, KV9.out⟩
          · have hia' : isArr qa.1 = false := eq_false_of_ne_true hia
            rw [hia']
            have s0 : ¬ 9223372036854775807 < (bs (canon qa.1)).size + 5 := by simp only [bs_size]; omega
            have s1 : ¬ 9223372036854775807 < (bs (canon qa.1)).size + 5 + (bs (canon qb.1)).size := by simp only [bs_size]; omega
            have s2 : ¬ 9223372036854775807 < (bs (canon qa.1)).size + 5 + (bs (canon qb.1)).size + 3 := by simp only [bs_size]; omega
            have s3 : ¬ 9223372036854775807 < (bs (canon qa.1)).size + 5 + (bs (canon qb.1)).size + 3 + (bs (canon qa.1)).size := by simp only [bs_size]; omega
            have s4 : ¬ 9223372036854775807 < (bs (canon qa.1)).size + 5 + (bs (canon qb.1)).size + 3 + (bs (canon qa.1)).size + 2 := by simp only [bs_size]; omega
            clear hla hlb
            go_wp2_with fail
            have HTXT : (bs (canon qa.1) ++ ({ data := #[32, 45, 62, 32, 40] } : ByteArray) ++ bs (canon qb.1) ++ { data := #[44, 32, 91] } ++ bs (canon qa.1) ++ { data := #[93, 41] }).data.toList = specText (canon qa.1) (canon qb.1) (isArr qa.1) := by simp [specText, bs, hia]
            refine (plain_instK _ GV7.out _ _).mono ?_
            rintro e w9 ⟨hk, h⟩
            have hf9 := hk.some HF7V.out (by simp)
            have K9 := Lib.hid (KV7.out.trans0 hk)
            have r0 := cell_of_block hf9 0
            have r1 := cell_of_block hf9 1
            have r2 := cell_of_block hf9 2
            have r3 := cell_of_block hf9 3
            have r4 := cell_of_block hf9 4
            have y0 := free_of_block hf9 0
            have y1 := free_of_block hf9 1
            have y2 := free_of_block hf9 2
            have y3 := free_of_block hf9 3
            have y4 := free_of_block hf9 4
            simp at r0 r1 r2 r3 r4
            rw [show (⟨#[112, 32, 45, 62, 32, 40, 113, 44, 32, 91, 112, 93, 41]⟩ : ByteArray).data.toList = genText from rfl, HTXT] at h
            have HF9 := Lib.hid hf9
            clear hk hf9 g0 h0 s0 s1 s2 s3 s4
            rcases inst_gen HQA.out HQB.out with hi | hi | ⟨ss, l2, hi, hm⟩
            · rw [hi] at h
              obtain rfl := h
              clear hi
              have KV9 := Lib.hid (show Keeps [] w (((((w9.setCell ⟨w2.heap.size, 0, none⟩ (.int .i64 1)).setCell ⟨w2.heap.size, 1, none⟩ (.int .i64 (placeOf (1, 0) : Nat))).setCell ⟨w2.heap.size, 2, none⟩ (.string ⟨#[]⟩)).setCell ⟨w2.heap.size, 3, none⟩ (.int .i64 0)).setCell ⟨w2.heap.size, 4, none⟩ (.int .i64 0)) from (((((K9.out.setCell (.inr hle2) _).setCell (.inr hle2) _).setCell (.inr hle2) _).setCell (.inr hle2) _).setCell (.inr hle2) _))
              go_wp2_with fail
              go_ret
              exact ⟨rfl, KV9.out⟩
            · rw [hi] at h
              obtain rfl := h
              clear hi
              have KV9 := Lib.hid (show Keeps [] w (((((w9.setCell ⟨w2.heap.size, 0, none⟩ (.int .i64 8)).setCell ⟨w2.heap.size, 1, none⟩ (.int .i64 (placeOf (8, 0) : Nat))).setCell ⟨w2.heap.size, 2, none⟩ (.string ⟨#[]⟩)).setCell ⟨w2.heap.size, 3, none⟩ (.int .i64 0)).setCell ⟨w2.heap.size, 4, none⟩ (.int .i64 0)) from (((((K9.out.setCell (.inr hle2) _).setCell (.inr hle2) _).setCell (.inr hle2) _).setCell (.inr hle2) _).setCell (.inr hle2) _))
              go_wp2_with fail
              go_ret
              exact ⟨rfl, KV9.out⟩
            · rw [hi] at h
              obtain ⟨sn, st, rfl, hsn, hst⟩ := h
              rw [ks_gen] at hsn
              rw [hm] at hst
              obtain ⟨an, cn, rfl, hcn⟩ := hsn
              obtain ⟨atx, ct, rfl, hct⟩ := hst
              have hlf7 := lt_of_some HF7V.out
              obtain ⟨gn, hgn, rfl, n0⟩ := hcn 0 _ rfl
              obtain ⟨_, _, e1, n1⟩ := hcn 1 _ rfl
              cases e1
              obtain ⟨gt, hgt9, rfl, t0⟩ := hct 0 _ rfl
              obtain ⟨_, _, e2, t1⟩ := hct 1 _ rfl
              cases e2
              unfold sV at n0 n1 t0 t1
              have KV9 := Lib.hid (show Keeps [] w (((((w9.setCell ⟨w2.heap.size, 0, none⟩ (.int .i64 0)).setCell ⟨w2.heap.size, 1, none⟩ (.int .i64 0)).setCell ⟨w2.heap.size, 2, none⟩ (.string ⟨#[]⟩)).setCell ⟨w2.heap.size, 3, none⟩ (.int .i64 0)).setCell ⟨w2.heap.size, 4, none⟩ (.int .i64 0)) from (((((K9.out.setCell (.inr hle2) _).setCell (.inr hle2) _).setCell (.inr hle2) _).setCell (.inr hle2) _).setCell (.inr hle2) _))
              have KU9 : Keeps [w2.heap.size] w9 (((((w9.setCell ⟨w2.heap.size, 0, none⟩ (.int .i64 0)).setCell ⟨w2.heap.size, 1, none⟩ (.int .i64 0)).setCell ⟨w2.heap.size, 2, none⟩ (.string ⟨#[]⟩)).setCell ⟨w2.heap.size, 3, none⟩ (.int .i64 0)).setCell ⟨w2.heap.size, 4, none⟩ (.int .i64 0)) := ((((((Keeps.refl [w2.heap.size] w9).setCell (.inl (by simp)) _).setCell (.inl (by simp)) _).setCell (.inl (by simp)) _).setCell (.inl (by simp)) _).setCell (.inl (by simp)) _)
              have u0 := KU9.cellSome n0 (fun h => by simp only [List.mem_singleton] at h; omega)
              have u1 := KU9.cellSome n1 (fun h => by simp only [List.mem_singleton] at h; omega)
              have x0 := KU9.cellSome t0 (fun h => by simp only [List.mem_singleton] at h; omega)
              have x1 := KU9.cellSome t1 (fun h => by simp only [List.mem_singleton] at h; omega)
              have z0 : ((((((w9.setCell ⟨w2.heap.size, 0, none⟩ (.int .i64 0)).setCell ⟨w2.heap.size, 1, none⟩ (.int .i64 0)).setCell ⟨w2.heap.size, 2, none⟩ (.string ⟨#[]⟩)).setCell ⟨w2.heap.size, 3, none⟩ (.int .i64 0)).setCell ⟨w2.heap.size, 4, none⟩ (.int .i64 0))).cell? ⟨w2.heap.size, 0, none⟩ = some (.int .i64 0) := (cell_of_block (block_setCell (block_setCell (block_setCell (block_setCell (block_setCell HF9.out 0 (.int .i64 0)) 1 (.int .i64 0)) 2 (.string ⟨#[]⟩)) 3 (.int .i64 0)) 4 (.int .i64 0)) 0).trans (by simp)
              have hp : ((bs [112]).toList == [112]) = true := by rw [ByteArray.toList_eq, bs_data]; decide
              have hq : ((bs [113]).toList == [113]) = true := by rw [ByteArray.toList_eq, bs_data]; decide
              have el1 : ([[112], [113]] : List Bytes).length = 2 := rfl
              have el2 : ([canon qa.1, canon qb.1] : List Bytes).length = 2 := rfl
              rw [el1, el2]
              clear hi hm hcn hct KU9 n0 n1 t0 t1 el1 el2 hgn hgt9
              go_wp2_with fail
              go_ret
              exact ⟨rfl, KV9.out⟩
end Go.Proofs.YtpbplpnifjbkoaaGreatDoor

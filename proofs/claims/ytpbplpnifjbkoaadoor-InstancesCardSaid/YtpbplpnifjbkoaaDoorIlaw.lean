/-
  schemeslaw.in, by contract; plain.Instance without marks.
-/
import Derived.Test.YtpbplpnifjbkoaaDoorInst
import Derived.Test.YtpbplpnifjbkoaaDoorRmat
import Derived.Test.YtpbplpnifjbkoaaDoorRpd
import Derived.Test.YtpbplpnifjbkoaaDoorSaid
import Derived.Test.YtpbplpnifjbkoaaDoorCanw
namespace Go.Proofs.YtpbplpnifjbkoaaDoor
open Go.RowKit

set_option maxRecDepth 100000 in
set_option maxHeartbeats 4000000 in
theorem lin_any {w : World} {lo : Nat} {sv : Value} {l : List Bytes} (hrow : SRow w lo sv l) (hl : l.length ≤ 100000) (n : Bytes) :
    Calls Tryd.prog 18 #[sv, .string (bs n)] w fun e w' => e = .returned (.bool (decide (n ∈ l))) ∧ w = w' := by
  obtain ⟨ad, cap, rfl, hcell⟩ := hrow
  have HCE := Lib.hid hcell
  clear hcell
  go_enter Tryd.func18, Tryd.ntmps18
  go_wp2_with fail
  go_loopg [9] l.length (fun gg i wx => ∃ j : Nat, gg = l.length - j ∧ i = .int .i64 j ∧ j ≤ l.length ∧ (∀ q, q < j → l[q]? ≠ some n) ∧ w = wx)
  case atStart => exact ⟨0, rfl, rfl, by omega, fun q hq => by omega, rfl⟩
  case round =>
    obtain ⟨j, hgj, rfl, hj, hnq, rfl⟩ := hrel
    have HGJ := Lib.hid hgj
    have HNQ := Lib.hid hnq
    clear hgj hnq
    by_cases hlt : j < l.length
    · obtain ⟨g, _, rfl, hc⟩ := HCE.out j l[j] (List.getElem?_eq_getElem hlt)
      have hdl : decide ((j : Int) < (l.length : Int)) = true := by simpa using hlt
      by_cases he : l[j] = n
      · have hm : n ∈ l := by rw [← he]; exact List.getElem_mem hlt
        have HM := Lib.hid hm
        have hd : ((bs l[j]).toList == (bs n).toList) = true := by rw [he]; exact beq_self_eq_true _
        clear hm he
        unfold sV at hc
        go_wp2
        go_ret
        refine ⟨?_, rfl⟩
        have : decide (n ∈ l) = true := by simpa using HM.out
        rw [this]; rfl
      · have hd : ((bs l[j]).toList == (bs n).toList) = false := by rw [ByteArray.toList_eq, ByteArray.toList_eq, bs_data, bs_data]; exact beq_eq_false_iff_ne.2 he
        unfold sV at hc
        go_wp2_with fail
        go_roundg (l.length - (j + 1))
        case measure => have := HGJ.out; omega
        case rel =>
          refine ⟨j + 1, rfl, by go_num, by omega, fun q hq' => ?_, rfl⟩
          rcases Nat.lt_or_eq_of_le (Nat.le_of_lt_succ hq') with h | rfl
          · exact HNQ.out q h
          · rw [List.getElem?_eq_getElem hlt]; simpa using he
    · have hdl : decide ((j : Int) < (l.length : Int)) = false := by simpa using hlt
      have hni : decide (n ∈ l) = false := by
        simp only [decide_eq_false_iff_not]
        intro hm
        obtain ⟨q, hq, hqe⟩ := List.getElem_of_mem hm
        exact HNQ.out q (by omega) (by rw [List.getElem?_eq_getElem hq, hqe])
      have HNI := Lib.hid hni
      clear hni HNQ
      go_wp2
      go_ret
      exact ⟨by rw [HNI.out]; rfl, rfl⟩

def PInstK (w : World) (r : Except (Nat × Nat) (List Bytes × List Bytes × List (Nat × Ty))) (e : Ending) (w' : World) : Prop :=
  Keeps [] w w' ∧ match r with
  | .ok q => ∃ sn st, e = .returned (.tuple #[sn, st, .bool false, faultV 0 0 ⟨#[]⟩ 0 0]) ∧ SRow w' w.heap.size sn (ksOf q.1) ∧ SRow w' w.heap.size st ((ksOf q.1).map (textOf q.1 q.2.1 q.2.2))
  | .error f => e = .returned (.tuple #[.slice none 0 0, .slice none 0 0, .bool true, faultV f.1 (placeOf f) ⟨#[]⟩ 0 0])
theorem plain_instance_k {a : Nat → Addr} {B : Nat} (w : World) (hG : Gl a B w) (s t : ByteArray) : Calls Tryd.prog 15 #[.string s, .string t] w (PInstK w (instOf s.data.toList t.data.toList)) := by
  letI : Inhabited Low := ⟨⟨w.heap.size⟩⟩
  refine (plain_instance w hG (Nat.le_refl _) s t).mono ?_
  rintro e w' ⟨hk, he⟩
  exact ⟨hk.keeps (Nat.le_refl _), he⟩
end Go.Proofs.YtpbplpnifjbkoaaDoor

namespace Go.Proofs.YtpbplpnifjbkoaaDoor
open Go.RowKit

theorem gotR_made (w : World) (n : Nat) : GotR (w.alloc (.cells (madeCells #[.pointer none] n) 38)) (.slice (some ⟨w.heap.size, 0, none⟩) n n) n [] :=
  ⟨_, n, rfl, fun v hv => ⟨w.heap.size, _, .pointer none, rfl, block_alloc _ _, by simp [madeCells, hv, Nat.mod_one], rfl⟩⟩

set_option maxRecDepth 100000 in
set_option maxHeartbeats 4000000 in
theorem instances_bad1 {a : Nat → Addr} {B : Nat} (w : World) (hG : Gl a B w) (s t : ByteArray) (f : Nat × Nat) (hr : readTyp s.data.toList = .error f) : Calls Tryd.prog 6 #[.string s, .string t] w fun e w' => e = .returned (.bool true) ∧ Keeps [] w w' := by
  have HG := Lib.hid hG
  clear hG
  have hio : instOf s.data.toList t.data.toList = .error f := by simp only [instOf, hr]
  have hp := readTyp_pos hr
  have HR := Lib.hid hr
  have HIO := Lib.hid hio
  clear hr hio
  obtain ⟨f1, f2⟩ := f
  go_enter Tryd.func6, Tryd.ntmps6
  go_wp2_with fail
  refine (plain_instance_k w HG.out s t).mono ?_
  rintro e w1 ⟨hk, h⟩
  have K1 := Lib.hid hk
  rw [HIO.out] at h
  obtain rfl := h
  clear hk
  go_wp2_with fail
  refine (rparsed_any _ s).mono ?_
  rintro e w2 ⟨hk, h⟩
  rw [HR.out] at h
  obtain rfl := h
  have HK2 := Lib.hid hk
  have hbg := hk.some (block_alloc w1 _) (by simp)
  have z0 : w2.cell? ⟨w1.heap.size, 0, none⟩ = some (.int .i64 (f1 : Nat)) := cell_of_block hbg 0
  have z1 : w2.cell? ⟨w1.heap.size, 1, none⟩ = some (.int .i64 (placeOf (f1, f2) : Nat)) := cell_of_block hbg 1
  have z2 : w2.cell? ⟨w1.heap.size, 2, none⟩ = some (.string ⟨#[]⟩) := cell_of_block hbg 2
  have z3 : w2.cell? ⟨w1.heap.size, 3, none⟩ = some (.int .i64 0) := cell_of_block hbg 3
  have z4 : w2.cell? ⟨w1.heap.size, 4, none⟩ = some (.int .i64 0) := cell_of_block hbg 4
  have hz : w1.heap.size < w2.heap.size := lt_of_some hbg
  have hpos : 0 < f1 := by have hp' : f1 = 1 ∨ f1 = 2 ∨ f1 = 8 := hp; omega
  have hpd : decide (0 < f1) = true := by simpa using hpos
  clear hk hbg hp
  go_wp2_with fail
  have bf := block_alloc w2 (.cells #[.int .i64 (f1 : Nat), .int .i64 (placeOf (f1, f2) : Nat), .string ⟨#[]⟩, .int .i64 0, .int .i64 0] 32)
  have KV := Lib.hid ((K1.out.trans0 (((Keeps.refl [] w1).alloc _).trans0 HK2.out)).alloc (.cells #[.int .i64 (f1 : Nat), .int .i64 (placeOf (f1, f2) : Nat), .string ⟨#[]⟩, .int .i64 0, .int .i64 0] 32))
  have ka := (Keeps.refl [] w2).alloc (.cells #[.int .i64 (f1 : Nat), .int .i64 (placeOf (f1, f2) : Nat), .string ⟨#[]⟩, .int .i64 0, .int .i64 0] 32)
  have v0 := ka.cellSome z0 (by simp)
  have v1 := ka.cellSome z1 (by simp)
  have v2 := ka.cellSome z2 (by simp)
  have v3 := ka.cellSome z3 (by simp)
  have v4 := ka.cellSome z4 (by simp)
  have v5 := cell_of_block bf 0
  have v6 := cell_of_block bf 1
  have v7 := cell_of_block bf 2
  have v8 := cell_of_block bf 3
  have v9 := cell_of_block bf 4
  clear z0 z1 z2 z3 z4 ka bf HK2 hz hpos hpd
  revert KV v0 v1 v2 v3 v4 v5 v6 v7 v8 v9
  generalize w2.alloc (.cells #[.int .i64 (f1 : Nat), .int .i64 (placeOf (f1, f2) : Nat), .string ⟨#[]⟩, .int .i64 0, .int .i64 0] 32) = V
  intro KV v0 v1 v2 v3 v4 v5 v6 v7 v8 v9
  simp at v5 v6 v7 v8 v9
  go_region_held3 (fun X => X.cell? ⟨w1.heap.size, 0, none⟩ = some (.int .i64 (f1 : Nat)) ∧ X.cell? ⟨w1.heap.size, 1, none⟩ = some (.int .i64 (placeOf (f1, f2) : Nat)) ∧ X.cell? ⟨w1.heap.size, 2, none⟩ = some (.string ⟨#[]⟩) ∧ X.cell? ⟨w1.heap.size, 3, none⟩ = some (.int .i64 0) ∧ X.cell? ⟨w1.heap.size, 4, none⟩ = some (.int .i64 0) ∧ X.cell? ⟨w2.heap.size, 0, none⟩ = some (.int .i64 (f1 : Nat)) ∧ X.cell? ⟨w2.heap.size, 1, none⟩ = some (.int .i64 (placeOf (f1, f2) : Nat)) ∧ X.cell? ⟨w2.heap.size, 2, none⟩ = some (.string ⟨#[]⟩) ∧ X.cell? ⟨w2.heap.size, 3, none⟩ = some (.int .i64 0) ∧ X.cell? ⟨w2.heap.size, 4, none⟩ = some (.int .i64 0) ∧ Keeps [] V X)
    (first | exact ⟨(Keeps.refl [] V).drew.cellSome v0 (by simp), (Keeps.refl [] V).drew.cellSome v1 (by simp), (Keeps.refl [] V).drew.cellSome v2 (by simp), (Keeps.refl [] V).drew.cellSome v3 (by simp), (Keeps.refl [] V).drew.cellSome v4 (by simp), (Keeps.refl [] V).drew.cellSome v5 (by simp), (Keeps.refl [] V).drew.cellSome v6 (by simp), (Keeps.refl [] V).drew.cellSome v7 (by simp), (Keeps.refl [] V).drew.cellSome v8 (by simp), (Keeps.refl [] V).drew.cellSome v9 (by simp), (Keeps.refl [] V).drew⟩ | exact ⟨hkb.cellSome v0 (by simp), hkb.cellSome v1 (by simp), hkb.cellSome v2 (by simp), hkb.cellSome v3 (by simp), hkb.cellSome v4 (by simp), hkb.cellSome v5 (by simp), hkb.cellSome v6 (by simp), hkb.cellSome v7 (by simp), hkb.cellSome v8 (by simp), hkb.cellSome v9 (by simp), hkb⟩)
    (first | (go_at_call 10; refine (said_any _ _ _ _ _ _).mono ?_; rintro e Wb ⟨rfl, hzb⟩; have hkb := Keeps.trans0 (show Keeps [] V _ by first | exact (Keeps.refl [] V).drew | assumption) hzb; clear hzb))
  all_goals
    go_wp2
    go_ret
    exact ⟨by simp, KV.out.trans0 (by assumption)⟩
set_option maxRecDepth 100000 in
set_option maxHeartbeats 4000000 in
theorem instances_bad2 {a : Nat → Addr} {B : Nat} (w : World) (hG : Gl a B w) (s t : ByteArray) (q : Ty × List Bytes) (f : Nat × Nat) (hr : readTyp s.data.toList = .ok q) (hr2 : readTyp t.data.toList = .error f) : Calls Tryd.prog 6 #[.string s, .string t] w fun e w' => e = .returned (.bool true) ∧ Keeps [] w w' := by
  have HG := Lib.hid hG
  clear hG
  have hio : instOf s.data.toList t.data.toList = .error f := by simp only [instOf, hr, hr2]
  have hp := readTyp_pos hr2
  have HR := Lib.hid hr
  have HR2 := Lib.hid hr2
  have HIO := Lib.hid hio
  clear hr hio hr2
  obtain ⟨f1, f2⟩ := f
  go_enter Tryd.func6, Tryd.ntmps6
  go_wp2_with fail
  refine (plain_instance_k w HG.out s t).mono ?_
  rintro e w1 ⟨hk, h⟩
  have K1 := Lib.hid hk
  rw [HIO.out] at h
  obtain rfl := h
  clear hk
  go_wp2_with fail
  refine (rparsed_any _ s).mono ?_
  rintro e w2 ⟨hk, h⟩
  rw [HR.out] at h
  obtain ⟨b, sv, rfl, hx, hown⟩ := h
  obtain ⟨ad, cap, rfl, _⟩ := ownsRow_shape hown
  have K2 := Lib.hid hk
  have hbg2 := hk.some (block_alloc w1 _) (by simp)
  have HBG2 := Lib.hid hbg2
  clear hk hx hown hbg2
  go_wp2_with fail
  refine (rparsed_any _ t).mono ?_
  rintro e w3 ⟨hk, h⟩
  rw [HR2.out] at h
  obtain rfl := h
  have K3 := Lib.hid hk
  have hbg := hk.some (block_alloc_old HBG2.out) (by simp)
  have hbf := hk.some (block_alloc w2 (.cells #[.int .i64 0, .int .i64 0, .string ⟨#[]⟩, .int .i64 0, .int .i64 0] 32)) (by simp)
  have r0 := cell_of_block hbf 0
  have r1 := cell_of_block hbf 1
  have r2 := cell_of_block hbf 2
  have r3 := cell_of_block hbf 3
  have r4 := cell_of_block hbf 4
  have y0 := free_of_block hbf 0
  have y1 := free_of_block hbf 1
  have y2 := free_of_block hbf 2
  have y3 := free_of_block hbf 3
  have y4 := free_of_block hbf 4
  have hpos : 0 < f1 := by have hp' : f1 = 1 ∨ f1 = 2 ∨ f1 = 8 := hp; omega
  have hpd : decide (0 < f1) = true := by simpa using hpos
  have HBG := Lib.hid hbg
  have HBF := Lib.hid hbf
  clear hk hbg hbf hp
  go_wp2_with fail
  have bf := block_setCell (block_setCell (block_setCell (block_setCell (block_setCell HBF.out 0 (.int .i64 (f1 : Nat))) 1 (.int .i64 (placeOf (f1, f2) : Nat))) 2 (.string ⟨#[]⟩)) 3 (.int .i64 0)) 4 (.int .i64 0)
  have hlt2 := lt_of_some HBG2.out
  have bg := block_setCell_other (block_setCell_other (block_setCell_other (block_setCell_other (block_setCell_other HBG.out ⟨w2.heap.size, 0, none⟩ (.int .i64 (f1 : Nat)) (by simp; omega)) ⟨w2.heap.size, 1, none⟩ (.int .i64 (placeOf (f1, f2) : Nat)) (by simp; omega)) ⟨w2.heap.size, 2, none⟩ (.string ⟨#[]⟩) (by simp; omega)) ⟨w2.heap.size, 3, none⟩ (.int .i64 0) (by simp; omega)) ⟨w2.heap.size, 4, none⟩ (.int .i64 0) (by simp; omega)
  have hw2 : w.heap.size ≤ w2.heap.size := by have := K1.out.size; have := K2.out.size; simp at this; omega
  have KV0 : Keeps [] w (((((w3.setCell ⟨w2.heap.size, 0, none⟩ (.int .i64 (f1 : Nat))).setCell ⟨w2.heap.size, 1, none⟩ (.int .i64 (placeOf (f1, f2) : Nat))).setCell ⟨w2.heap.size, 2, none⟩ (.string ⟨#[]⟩)).setCell ⟨w2.heap.size, 3, none⟩ (.int .i64 0)).setCell ⟨w2.heap.size, 4, none⟩ (.int .i64 0)) := by
    have k3 := (((K1.out.alloc (.cells #[.int .i64 (f1 : Nat), .int .i64 (placeOf (f1, f2) : Nat), .string ⟨#[]⟩, .int .i64 0, .int .i64 0] 28)).trans0 K2.out).alloc (.cells #[.int .i64 0, .int .i64 0, .string ⟨#[]⟩, .int .i64 0, .int .i64 0] 32)).trans0 K3.out
    exact Keeps.setCell (Keeps.setCell (Keeps.setCell (Keeps.setCell (Keeps.setCell k3 (.inr hw2) _) (.inr hw2) _) (.inr hw2) _) (.inr hw2) _) (.inr hw2) _
  have KV := Lib.hid KV0
  clear KV0
  have v0 := cell_of_block bg 0
  have v1 := cell_of_block bg 1
  have v2 := cell_of_block bg 2
  have v3 := cell_of_block bg 3
  have v4 := cell_of_block bg 4
  have v5 := cell_of_block bf 0
  have v6 := cell_of_block bf 1
  have v7 := cell_of_block bf 2
  have v8 := cell_of_block bf 3
  have v9 := cell_of_block bf 4
  clear r0 r1 r2 r3 r4 y0 y1 y2 y3 y4 hpos hpd bf bg hlt2 hw2 HBG HBF HBG2 K1 K2 K3
  revert KV v0 v1 v2 v3 v4 v5 v6 v7 v8 v9
  generalize (((((w3.setCell ⟨w2.heap.size, 0, none⟩ (.int .i64 (f1 : Nat))).setCell ⟨w2.heap.size, 1, none⟩ (.int .i64 (placeOf (f1, f2) : Nat))).setCell ⟨w2.heap.size, 2, none⟩ (.string ⟨#[]⟩)).setCell ⟨w2.heap.size, 3, none⟩ (.int .i64 0)).setCell ⟨w2.heap.size, 4, none⟩ (.int .i64 0)) = V
  intro KV v0 v1 v2 v3 v4 v5 v6 v7 v8 v9
  simp at v0 v1 v2 v3 v4 v5 v6 v7 v8 v9
  go_region_held3 (fun X => X.cell? ⟨w1.heap.size, 0, none⟩ = some (.int .i64 (f1 : Nat)) ∧ X.cell? ⟨w1.heap.size, 1, none⟩ = some (.int .i64 (placeOf (f1, f2) : Nat)) ∧ X.cell? ⟨w1.heap.size, 2, none⟩ = some (.string ⟨#[]⟩) ∧ X.cell? ⟨w1.heap.size, 3, none⟩ = some (.int .i64 0) ∧ X.cell? ⟨w1.heap.size, 4, none⟩ = some (.int .i64 0) ∧ X.cell? ⟨w2.heap.size, 0, none⟩ = some (.int .i64 (f1 : Nat)) ∧ X.cell? ⟨w2.heap.size, 1, none⟩ = some (.int .i64 (placeOf (f1, f2) : Nat)) ∧ X.cell? ⟨w2.heap.size, 2, none⟩ = some (.string ⟨#[]⟩) ∧ X.cell? ⟨w2.heap.size, 3, none⟩ = some (.int .i64 0) ∧ X.cell? ⟨w2.heap.size, 4, none⟩ = some (.int .i64 0) ∧ Keeps [] V X)
    (first | exact ⟨(Keeps.refl [] V).drew.cellSome v0 (by simp), (Keeps.refl [] V).drew.cellSome v1 (by simp), (Keeps.refl [] V).drew.cellSome v2 (by simp), (Keeps.refl [] V).drew.cellSome v3 (by simp), (Keeps.refl [] V).drew.cellSome v4 (by simp), (Keeps.refl [] V).drew.cellSome v5 (by simp), (Keeps.refl [] V).drew.cellSome v6 (by simp), (Keeps.refl [] V).drew.cellSome v7 (by simp), (Keeps.refl [] V).drew.cellSome v8 (by simp), (Keeps.refl [] V).drew.cellSome v9 (by simp), (Keeps.refl [] V).drew⟩ | exact ⟨hkb.cellSome v0 (by simp), hkb.cellSome v1 (by simp), hkb.cellSome v2 (by simp), hkb.cellSome v3 (by simp), hkb.cellSome v4 (by simp), hkb.cellSome v5 (by simp), hkb.cellSome v6 (by simp), hkb.cellSome v7 (by simp), hkb.cellSome v8 (by simp), hkb.cellSome v9 (by simp), hkb⟩)
    (first | (go_at_call 10; refine (said_any _ _ _ _ _ _).mono ?_; rintro e Wb ⟨rfl, hzb⟩; have hkb := Keeps.trans0 (show Keeps [] V _ by first | exact (Keeps.refl [] V).drew | assumption) hzb; clear hzb))
  all_goals
    go_wp2
    go_ret
    exact ⟨by simp, KV.out.trans0 (by assumption)⟩
set_option maxRecDepth 100000 in
set_option maxHeartbeats 4000000 in
theorem instances_no {a : Nat → Addr} {B : Nat} (w : World) (hG : Gl a B w) (s t : ByteArray) (q q2 : Ty × List Bytes) (hr : readTyp s.data.toList = .ok q) (hr2 : readTyp t.data.toList = .ok q2) (hm : matchT q.1 q2.1 [] = none) : Calls Tryd.prog 6 #[.string s, .string t] w fun e w' => e = .returned (.bool true) ∧ Keeps [] w w' := by
  have HG := Lib.hid hG
  clear hG
  have hio : instOf s.data.toList t.data.toList = .error (11, 0) := by simp only [instOf, hr, hr2, hm]
  have hok := readTyp_ok hr
  have hok2 := readTyp_ok hr2
  have HR := Lib.hid hr
  have HR2 := Lib.hid hr2
  have HM := Lib.hid hm
  have HOK := Lib.hid hok
  have HOK2 := Lib.hid hok2
  have HIO := Lib.hid hio
  clear hr hio hr2 hm hok hok2
  go_enter Tryd.func6, Tryd.ntmps6
  go_wp2_with fail
  refine (plain_instance_k w HG.out s t).mono ?_
  rintro e w1 ⟨hk, h⟩
  have K1 := Lib.hid hk
  rw [HIO.out] at h
  obtain rfl := h
  clear hk
  go_wp2_with fail
  refine (rparsed_any _ s).mono ?_
  rintro e w2 ⟨hk, h⟩
  rw [HR.out] at h
  obtain ⟨b, sv, rfl, hx, hown⟩ := h
  obtain ⟨ad, cap, rfl, _⟩ := ownsRow_shape hown
  have K2 := Lib.hid hk
  have HX := Lib.hid hx
  have HOW := Lib.hid hown
  clear hk hx hown
  have HBG2 := Lib.hid (K2.out.some (block_alloc w1 _) (by simp))
  go_wp2_with fail
  refine (rparsed_any _ t).mono ?_
  rintro e w3 ⟨hk, h⟩
  rw [HR2.out] at h
  obtain ⟨b2, sv2, rfl, hx2, hown2⟩ := h
  obtain ⟨ad2, cap2, rfl, _⟩ := ownsRow_shape hown2
  have K3 := Lib.hid hk
  have HX2 := Lib.hid hx2
  have HOW2 := Lib.hid hown2
  have hbg := hk.some (block_alloc_old HBG2.out) (by simp)
  have hbf := hk.some (block_alloc w2 (.cells #[.int .i64 0, .int .i64 0, .string ⟨#[]⟩, .int .i64 0, .int .i64 0] 32)) (by simp)
  have r0 := cell_of_block hbf 0
  have r1 := cell_of_block hbf 1
  have r2 := cell_of_block hbf 2
  have r3 := cell_of_block hbf 3
  have r4 := cell_of_block hbf 4
  have y0 := free_of_block hbf 0
  have y1 := free_of_block hbf 1
  have y2 := free_of_block hbf 2
  have y3 := free_of_block hbf 3
  have y4 := free_of_block hbf 4
  have HBG := Lib.hid hbg
  have HBF := Lib.hid hbf
  have hfew := HOK.out.few
  obtain ⟨i, hi, hi0, hi1, hi2⟩ := info_parts infoPTyp
  have hmk : ∀ w : World, (Instr.makeSlice 45 (.int .i64 (q.2.length : Int)) (.int .i64 (q.2.length : Int))).run Tryd.prog w = .ok (.slice (some ⟨w.heap.size, 0, none⟩) q.2.length q.2.length) (w.alloc (.cells (madeCells #[.pointer none] q.2.length) 38)) := by
    intro w
    have hb : (i.bytes : Int) * (q.2.length : Int) ≤ 281474976710656 := by rw [hi2]; omega
    have hr := run_make (P := Tryd.prog) w 45 38 i (.pointer none) Tryd.underlying45 hi hi0 .i64 .i64 q.2.length q.2.length (by omega) (by omega) hb (by omega)
    simp only [Int.toNat_natCast, hi1, Nat.mul_one] at hr
    exact hr
  have hmkV := hmk (((((w3.setCell ⟨w2.heap.size, 0, none⟩ (.int .i64 0)).setCell ⟨w2.heap.size, 1, none⟩ (.int .i64 0)).setCell ⟨w2.heap.size, 2, none⟩ (.string ⟨#[]⟩)).setCell ⟨w2.heap.size, 3, none⟩ (.int .i64 0)).setCell ⟨w2.heap.size, 4, none⟩ (.int .i64 0))
  have bf := block_setCell (block_setCell (block_setCell (block_setCell (block_setCell HBF.out 0 (.int .i64 0)) 1 (.int .i64 0)) 2 (.string ⟨#[]⟩)) 3 (.int .i64 0)) 4 (.int .i64 0)
  have hlt2 := lt_of_some HBG2.out
  have bg := block_setCell_other (block_setCell_other (block_setCell_other (block_setCell_other (block_setCell_other HBG.out ⟨w2.heap.size, 0, none⟩ (.int .i64 0) (by simp; omega)) ⟨w2.heap.size, 1, none⟩ (.int .i64 0) (by simp; omega)) ⟨w2.heap.size, 2, none⟩ (.string ⟨#[]⟩) (by simp; omega)) ⟨w2.heap.size, 3, none⟩ (.int .i64 0) (by simp; omega)) ⟨w2.heap.size, 4, none⟩ (.int .i64 0) (by simp; omega)
  have hw2 : w.heap.size ≤ w2.heap.size := by have := K1.out.size; have := K2.out.size; simp at this; omega
  have kw2 : Keeps [] w2 (((((w3.setCell ⟨w2.heap.size, 0, none⟩ (.int .i64 0)).setCell ⟨w2.heap.size, 1, none⟩ (.int .i64 0)).setCell ⟨w2.heap.size, 2, none⟩ (.string ⟨#[]⟩)).setCell ⟨w2.heap.size, 3, none⟩ (.int .i64 0)).setCell ⟨w2.heap.size, 4, none⟩ (.int .i64 0)) := by
    have k3 := ((Keeps.refl [] w2).alloc (.cells #[.int .i64 0, .int .i64 0, .string ⟨#[]⟩, .int .i64 0, .int .i64 0] 32)).trans0 K3.out
    exact Keeps.setCell (Keeps.setCell (Keeps.setCell (Keeps.setCell (Keeps.setCell k3 (.inr (Nat.le_refl _)) _) (.inr (Nat.le_refl _)) _) (.inr (Nat.le_refl _)) _) (.inr (Nat.le_refl _)) _) (.inr (Nat.le_refl _)) _
  have kw3 : Keeps [w2.heap.size] w3 (((((w3.setCell ⟨w2.heap.size, 0, none⟩ (.int .i64 0)).setCell ⟨w2.heap.size, 1, none⟩ (.int .i64 0)).setCell ⟨w2.heap.size, 2, none⟩ (.string ⟨#[]⟩)).setCell ⟨w2.heap.size, 3, none⟩ (.int .i64 0)).setCell ⟨w2.heap.size, 4, none⟩ (.int .i64 0)) := by
    repeat (first | exact Keeps.refl _ _ | refine Keeps.setCell ?_ (Or.inl (by simp)) _)
  have hxV := kw2.kr.ty HX.out
  have hx2V : RTy (((((w3.setCell ⟨w2.heap.size, 0, none⟩ (.int .i64 0)).setCell ⟨w2.heap.size, 1, none⟩ (.int .i64 0)).setCell ⟨w2.heap.size, 2, none⟩ (.string ⟨#[]⟩)).setCell ⟨w2.heap.size, 3, none⟩ (.int .i64 0)).setCell ⟨w2.heap.size, 4, none⟩ (.int .i64 0)) q2.1 (pV b2) := KR.ty (fun k cs T z hk hT => kw3.some hk (by
    simp only [List.mem_singleton]
    refine ne_of_obj' hk HBF.out ?_
    rintro e
    cases e
    rcases hT with e | e <;> exact absurd e (by decide))) HX2.out
  have howV := ownsRow_keeps HOW2.out kw3 (by simp)
  have how1V := ownsRow_keeps HOW.out (kw2.mono (M' := []) (by simp)) (by simp)
  have KV := Lib.hid (((K1.out.alloc _).trans0 K2.out).trans0 kw2)
  have HXV := Lib.hid hxV
  have HX2V := Lib.hid hx2V
  have HOWV := Lib.hid howV
  have HOW1V := Lib.hid how1V
  have hVs : (((((w3.setCell ⟨w2.heap.size, 0, none⟩ (.int .i64 0)).setCell ⟨w2.heap.size, 1, none⟩ (.int .i64 0)).setCell ⟨w2.heap.size, 2, none⟩ (.string ⟨#[]⟩)).setCell ⟨w2.heap.size, 3, none⟩ (.int .i64 0)).setCell ⟨w2.heap.size, 4, none⟩ (.int .i64 0)).heap.size = w3.heap.size := by simp [World.setCell]
  have HVS := Lib.hid hVs
  have hgr := gotR_made (((((w3.setCell ⟨w2.heap.size, 0, none⟩ (.int .i64 0)).setCell ⟨w2.heap.size, 1, none⟩ (.int .i64 0)).setCell ⟨w2.heap.size, 2, none⟩ (.string ⟨#[]⟩)).setCell ⟨w2.heap.size, 3, none⟩ (.int .i64 0)).setCell ⟨w2.heap.size, 4, none⟩ (.int .i64 0)) q.2.length
  rw [hVs] at hgr
  have HGR := Lib.hid hgr
  have kA := (Keeps.refl [] (((((w3.setCell ⟨w2.heap.size, 0, none⟩ (.int .i64 0)).setCell ⟨w2.heap.size, 1, none⟩ (.int .i64 0)).setCell ⟨w2.heap.size, 2, none⟩ (.string ⟨#[]⟩)).setCell ⟨w2.heap.size, 3, none⟩ (.int .i64 0)).setCell ⟨w2.heap.size, 4, none⟩ (.int .i64 0))).alloc (.cells (madeCells #[.pointer none] q.2.length) 38)
  have HMA := Lib.hid (rmatch_any q.2.length (by omega) q.1.size q.1 (Nat.le_refl _) q2.1 [] _ _ _ _ (kA.kr.ty HXV.out) (kA.kr.ty HX2V.out) hgr (under_of_vars _ _ HOK.out.vars) (fun v hv => by have := under_has (under_of_vars _ _ HOK2.out.vars) hv; have := HOK2.out.few; omega) (fun v u h => by simp at h))
  have HBGV := Lib.hid (block_alloc_old (o' := .cells (madeCells #[.pointer none] q.2.length) 38) bg)
  have KA := Lib.hid (KV.out.trans0 kA)
  clear hk hbg hbf hx2 hown2 hi hi0 hi1 hi2 hlt2 hw2 kw2 kw3 hxV hx2V howV how1V hmk hVs hgr kA bg bf
  go_wp2_with fail
  refine HMA.out.mono ?_
  intro e w4 hpost
  rw [HM.out] at hpost
  obtain ⟨hk4, svx, rfl⟩ := hpost
  have hb4 := hk4.some HBGV.out (by simp)
  have v0 := cell_of_block hb4 0
  have K4 := Lib.hid (KA.out.trans0 hk4)
  clear hk4 hb4 HMA r0 r1 r2 r3 r4 y0 y1 y2 y3 y4 hmkV
  simp at v0
  go_wp2_with fail
  go_ret
  exact ⟨rfl, K4.out⟩
end Go.Proofs.YtpbplpnifjbkoaaDoor

namespace Go.Proofs.YtpbplpnifjbkoaaDoor
open Go.RowKit

theorem SRow.cell {w : World} {lo : Nat} {ad : Option Addr} {n cap : Nat} {xs : List Bytes} (h : SRow w lo (.slice ad n cap) xs) {j : Nat} {x : Bytes} (hj : xs[j]? = some x) : ∃ g, ad = some ⟨g, 0, none⟩ ∧ w.cell? ⟨g, j, none⟩ = some (.string (bs x)) := by
  obtain ⟨ad', cap', e, hc⟩ := h
  cases e
  obtain ⟨g, _, h1, h2⟩ := hc j x hj
  exact ⟨g, h1, h2⟩
theorem matchT_sizes (a : Ty) : ∀ (b : Ty) (g g' : List (Nat × Ty)), matchT a b g = some g' → ∀ k, b.size ≤ k → (∀ v u, g.lookup v = some u → u.size ≤ k) → ∀ v u, g'.lookup v = some u → u.size ≤ k := by
  induction a with
  | var n =>
    intro b g g' h k hb hg
    simp only [matchT] at h
    cases hl : g.lookup n with
    | some u =>
      rw [hl] at h
      simp only at h
      split at h
      · cases h; exact hg
      · cases h
    | none =>
      rw [hl] at h
      cases h
      intro v u hu
      rw [List.lookup_cons] at hu
      by_cases hv : v = n
      · subst hv; simp only [BEq.rfl, Option.some.injEq] at hu; exact hu ▸ hb
      · rw [beq_false_of_ne hv] at hu; exact hg v u hu
  | int => intro b g g' h; cases b <;> simp [matchT] at h; subst h; exact fun _ _ hg => hg
  | bool => intro b g g' h; cases b <;> simp [matchT] at h; subst h; exact fun _ _ hg => hg
  | list a ih =>
    intro b g g' h k hb hg
    cases b <;> simp only [matchT, reduceCtorEq] at h
    exact ih _ _ _ h k (by simp only [Ty.size] at hb; omega) hg
  | pair a b iha ihb =>
    intro b' g g' h k hb hg
    cases b' <;> simp only [matchT, reduceCtorEq] at h
    obtain ⟨g1, h1, h2⟩ := Option.bind_eq_some_iff.1 h
    simp only [Ty.size] at hb
    exact ihb _ _ _ h2 k (by omega) (iha _ _ _ h1 k (by omega) hg)
  | arr a b iha ihb =>
    intro b' g g' h k hb hg
    cases b' <;> simp only [matchT, reduceCtorEq] at h
    obtain ⟨g1, h1, h2⟩ := Option.bind_eq_some_iff.1 h
    simp only [Ty.size] at hb
    exact ihb _ _ _ h2 k (by omega) (iha _ _ _ h1 k (by omega) hg)
theorem shown_len8 {nm : Nat → Bytes} (hn : ∀ v, (nm v).length ≤ 8) (t : Ty) : (shown nm t).length ≤ 16 * t.size := by
  induction t with
  | var n => have := hn n; simp only [shown, Ty.size]; omega
  | int => simp [shown, Ty.size]
  | bool => simp [shown, Ty.size]
  | list a ih => simp only [shown, Ty.size, List.length_append, List.length_cons, List.length_nil]; omega
  | pair a b iha ihb => simp only [shown, Ty.size, List.length_append, List.length_cons, List.length_nil]; omega
  | arr a b iha ihb =>
    simp only [shown, Ty.size, List.length_append, List.length_cons, List.length_nil]
    split <;> simp [par] <;> omega
theorem bytes_rise {a b : Bytes} (h : a < b) : Op.bytesLess (bs a).toList (bs b).toList = true := by
  rw [ByteArray.toList_eq, ByteArray.toList_eq, bs_data, bs_data, Go.Proofs.bytesLess_eq]
  exact decide_eq_true h
/-- Each name lies ahead of the next. -/
theorem ks_rise {gs : List Bytes} (hnd : gs.Nodup) {j : Nat} {y y' : Bytes} (h' : (ksOf gs)[j]? = some y') (h : (ksOf gs)[j + 1]? = some y) : y' < y := by
  have tr : ∀ a b c : Bytes, decide (a ≤ b) = true → decide (b ≤ c) = true → decide (a ≤ c) = true := fun a b c h1 h2 => by simp only [decide_eq_true_eq] at *; exact List.le_trans h1 h2
  have tot : ∀ a b : Bytes, (decide (a ≤ b) || decide (b ≤ a)) = true := fun a b => by simp only [Bool.or_eq_true, decide_eq_true_eq]; exact List.le_total a b
  have hp := List.pairwise_mergeSort tr tot gs
  have hn : (ksOf gs).Nodup := (List.mergeSort_perm gs _).nodup_iff.2 hnd
  obtain ⟨h1, rfl⟩ := List.getElem?_eq_some_iff.1 h'
  obtain ⟨h2, rfl⟩ := List.getElem?_eq_some_iff.1 h
  have hle := List.pairwise_iff_getElem.1 hp j (j + 1) h1 h2 (by omega)
  simp only [decide_eq_true_eq] at hle
  have hne : (ksOf gs)[j] ≠ (ksOf gs)[j + 1] := fun e => by have := (List.getElem_inj hn).1 e; omega
  exact Decidable.byContradiction fun h => hne (List.le_antisymm hle (List.not_lt.1 h))
/-- The text of what a variable stands for. -/
theorem show_got {w W : World} {sx : Value} {n lo len cap2 : Nat} {ad2 : Option Addr} {l : List (Nat × Ty)} {own : List Bytes} {b : Ty} (hgot : GotR w sx n l) (hown : SRow w lo (.slice ad2 len cap2) own) (hok : ReadOK b own) {k : Nat} (hl : ∃ u, l.lookup k = some u) (hu : GUnder own.length l) (hs : ∀ v u, l.lookup v = some u → u.size ≤ 120) (hk : k < n) (hW : Keeps [] w W) :
    ∃ ad cap g0 px, sx = .slice ad n cap ∧ ad = some ⟨g0, 0, none⟩ ∧ W.cell? ⟨g0, k, none⟩ = some (pV px) ∧ ∃ u, l.lookup k = some u ∧ ∀ W' : World, Keeps [] w W' → Calls Tryd.prog 17 #[pV px, .slice ad2 len cap2] W' fun e w' => e = .returned (.string (bs (shown (nthN own) u))) ∧ Keeps [] W' w' := by
  obtain ⟨u, hl⟩ := hl
  obtain ⟨ad, cap, rfl, _⟩ := id hgot
  obtain ⟨g0, x, h1, hc, hx, _⟩ := hgot.val hk
  rw [hl] at hx
  obtain ⟨px, rfl⟩ := hx.ptr
  refine ⟨ad, cap, g0, px, rfl, h1, hW.cellSome hc (by simp), u, hl, fun W' hW' => ?_⟩
  have hlen : own.length = len := by
    obtain ⟨_, _, e, _⟩ := hown
    cases e
    rfl
  refine rshowA_any ad2 len cap2 (nthN own) u ?_ W' _ (hW'.kr.ty hx) (fun v hv => ?_)
  · have h8 : ∀ v, (nthN own v).length ≤ 8 := fun v => by
      by_cases hv : v < own.length
      · exact (hok.names _ (nthN_mem hv)).2.2.1
      · simp [nthN, List.getD_eq_getElem?_getD, List.getElem?_eq_none (Nat.le_of_not_lt hv)]
    have := shown_len8 h8 u
    have := hs k u hl
    omega
  · have hvl := under_has (hu k u hl) hv
    have hv2 : own[v]? = some (nthN own v) := by simp [nthN, List.getD_eq_getElem?_getD, List.getElem?_eq_getElem hvl]
    obtain ⟨g, e1, e2⟩ := (hown.keep hW' (by simp)).cell hv2
    exact ⟨by omega, g, e1, e2⟩

set_option maxRecDepth 100000 in
set_option maxHeartbeats 4000000 in
theorem instances_yes {a : Nat → Addr} {B : Nat} (w : World) (hG : Gl a B w) (s t : ByteArray) (q q2 : Ty × List Bytes) (hr : readTyp s.data.toList = .ok q) (hr2 : readTyp t.data.toList = .ok q2) (l : List (Nat × Ty)) (hm : matchT q.1 q2.1 [] = some l) : Calls Tryd.prog 6 #[.string s, .string t] w fun e w' => e = .returned (.bool true) ∧ Keeps [] w w' := by
  have HG := Lib.hid hG
  clear hG
  have hio : instOf s.data.toList t.data.toList = .ok (q.2, q2.2, l) := by simp only [instOf, hr, hr2, hm]
  have hok := readTyp_ok hr
  have hok2 := readTyp_ok hr2
  have HR := Lib.hid hr
  have HR2 := Lib.hid hr2
  have HM := Lib.hid hm
  have HOK := Lib.hid hok
  have HOK2 := Lib.hid hok2
  have HIO := Lib.hid hio
  clear hr hio hr2 hm hok hok2
  go_enter Tryd.func6, Tryd.ntmps6
  go_wp2_with fail
  refine (plain_instance_k w HG.out s t).mono ?_
  rintro e w1 ⟨hk, h⟩
  have K1 := Lib.hid hk
  rw [HIO.out] at h
  obtain ⟨sn, st, rfl, hsn, hst⟩ := h
  have HSN := Lib.hid hsn
  have HST := Lib.hid hst
  have hkl : (ksOf q.2).length = q.2.length := List.length_mergeSort _
  obtain ⟨adl, capl, hsl, _⟩ := hsn
  obtain ⟨adt, capt, hstl, _⟩ := hst
  simp only [List.length_map, hkl] at hsl hstl
  subst hsl
  subst hstl
  clear hk hkl
  go_wp2_with fail
  refine (rparsed_any _ s).mono ?_
  rintro e w2 ⟨hk, h⟩
  rw [HR.out] at h
  obtain ⟨b, sv, rfl, hx, hown⟩ := h
  obtain ⟨ad, cap, rfl, _⟩ := ownsRow_shape hown
  have K2 := Lib.hid hk
  have HX := Lib.hid hx
  have HOW := Lib.hid hown
  clear hk hx hown
  have HBG2 := Lib.hid (K2.out.some (block_alloc w1 _) (by simp))
  go_wp2_with fail
  refine (rparsed_any _ t).mono ?_
  rintro e w3 ⟨hk, h⟩
  rw [HR2.out] at h
  obtain ⟨b2, sv2, rfl, hx2, hown2⟩ := h
  obtain ⟨ad2, cap2, rfl, _⟩ := ownsRow_shape hown2
  have K3 := Lib.hid hk
  have HX2 := Lib.hid hx2
  have HOW2 := Lib.hid hown2
  have hbg := hk.some (block_alloc_old HBG2.out) (by simp)
  have hbf := hk.some (block_alloc w2 (.cells #[.int .i64 0, .int .i64 0, .string ⟨#[]⟩, .int .i64 0, .int .i64 0] 32)) (by simp)
  have r0 := cell_of_block hbf 0
  have r1 := cell_of_block hbf 1
  have r2 := cell_of_block hbf 2
  have r3 := cell_of_block hbf 3
  have r4 := cell_of_block hbf 4
  have y0 := free_of_block hbf 0
  have y1 := free_of_block hbf 1
  have y2 := free_of_block hbf 2
  have y3 := free_of_block hbf 3
  have y4 := free_of_block hbf 4
  have HBG := Lib.hid hbg
  have HBF := Lib.hid hbf
  have hfew := HOK.out.few
  obtain ⟨i, hi, hi0, hi1, hi2⟩ := info_parts infoPTyp
  have hmk : ∀ w : World, (Instr.makeSlice 45 (.int .i64 (q.2.length : Int)) (.int .i64 (q.2.length : Int))).run Tryd.prog w = .ok (.slice (some ⟨w.heap.size, 0, none⟩) q.2.length q.2.length) (w.alloc (.cells (madeCells #[.pointer none] q.2.length) 38)) := by
    intro w
    have hb : (i.bytes : Int) * (q.2.length : Int) ≤ 281474976710656 := by rw [hi2]; omega
    have hr := run_make (P := Tryd.prog) w 45 38 i (.pointer none) Tryd.underlying45 hi hi0 .i64 .i64 q.2.length q.2.length (by omega) (by omega) hb (by omega)
    simp only [Int.toNat_natCast, hi1, Nat.mul_one] at hr
    exact hr
  have hmkV := hmk (((((w3.setCell ⟨w2.heap.size, 0, none⟩ (.int .i64 0)).setCell ⟨w2.heap.size, 1, none⟩ (.int .i64 0)).setCell ⟨w2.heap.size, 2, none⟩ (.string ⟨#[]⟩)).setCell ⟨w2.heap.size, 3, none⟩ (.int .i64 0)).setCell ⟨w2.heap.size, 4, none⟩ (.int .i64 0))
  have bf := block_setCell (block_setCell (block_setCell (block_setCell (block_setCell HBF.out 0 (.int .i64 0)) 1 (.int .i64 0)) 2 (.string ⟨#[]⟩)) 3 (.int .i64 0)) 4 (.int .i64 0)
  have hlt2 := lt_of_some HBG2.out
  have bg := block_setCell_other (block_setCell_other (block_setCell_other (block_setCell_other (block_setCell_other HBG.out ⟨w2.heap.size, 0, none⟩ (.int .i64 0) (by simp; omega)) ⟨w2.heap.size, 1, none⟩ (.int .i64 0) (by simp; omega)) ⟨w2.heap.size, 2, none⟩ (.string ⟨#[]⟩) (by simp; omega)) ⟨w2.heap.size, 3, none⟩ (.int .i64 0) (by simp; omega)) ⟨w2.heap.size, 4, none⟩ (.int .i64 0) (by simp; omega)
  have hw2 : w.heap.size ≤ w2.heap.size := by have := K1.out.size; have := K2.out.size; simp at this; omega
  have kw2 : Keeps [] w2 (((((w3.setCell ⟨w2.heap.size, 0, none⟩ (.int .i64 0)).setCell ⟨w2.heap.size, 1, none⟩ (.int .i64 0)).setCell ⟨w2.heap.size, 2, none⟩ (.string ⟨#[]⟩)).setCell ⟨w2.heap.size, 3, none⟩ (.int .i64 0)).setCell ⟨w2.heap.size, 4, none⟩ (.int .i64 0)) := by
    have k3 := ((Keeps.refl [] w2).alloc (.cells #[.int .i64 0, .int .i64 0, .string ⟨#[]⟩, .int .i64 0, .int .i64 0] 32)).trans0 K3.out
    exact Keeps.setCell (Keeps.setCell (Keeps.setCell (Keeps.setCell (Keeps.setCell k3 (.inr (Nat.le_refl _)) _) (.inr (Nat.le_refl _)) _) (.inr (Nat.le_refl _)) _) (.inr (Nat.le_refl _)) _) (.inr (Nat.le_refl _)) _
  have kw3 : Keeps [w2.heap.size] w3 (((((w3.setCell ⟨w2.heap.size, 0, none⟩ (.int .i64 0)).setCell ⟨w2.heap.size, 1, none⟩ (.int .i64 0)).setCell ⟨w2.heap.size, 2, none⟩ (.string ⟨#[]⟩)).setCell ⟨w2.heap.size, 3, none⟩ (.int .i64 0)).setCell ⟨w2.heap.size, 4, none⟩ (.int .i64 0)) := by
    repeat (first | exact Keeps.refl _ _ | refine Keeps.setCell ?_ (Or.inl (by simp)) _)
  have hxV := kw2.kr.ty HX.out
  have hx2V : RTy (((((w3.setCell ⟨w2.heap.size, 0, none⟩ (.int .i64 0)).setCell ⟨w2.heap.size, 1, none⟩ (.int .i64 0)).setCell ⟨w2.heap.size, 2, none⟩ (.string ⟨#[]⟩)).setCell ⟨w2.heap.size, 3, none⟩ (.int .i64 0)).setCell ⟨w2.heap.size, 4, none⟩ (.int .i64 0)) q2.1 (pV b2) := KR.ty (fun k cs T z hk hT => kw3.some hk (by
    simp only [List.mem_singleton]
    refine ne_of_obj' hk HBF.out ?_
    rintro e
    cases e
    rcases hT with e | e <;> exact absurd e (by decide))) HX2.out
  have howV := ownsRow_keeps HOW2.out kw3 (by simp)
  have how1V := ownsRow_keeps HOW.out (kw2.mono (M' := []) (by simp)) (by simp)
  have KV := Lib.hid (((K1.out.alloc _).trans0 K2.out).trans0 kw2)
  have KV1 := Lib.hid ((((Keeps.refl [] w1).alloc (.cells #[.int .i64 0, .int .i64 0, .string ⟨#[]⟩, .int .i64 0, .int .i64 0] 28)).trans0 K2.out).trans0 kw2)
  have HXV := Lib.hid hxV
  have HX2V := Lib.hid hx2V
  have HOWV := Lib.hid howV
  have HOW1V := Lib.hid how1V
  have hVs : (((((w3.setCell ⟨w2.heap.size, 0, none⟩ (.int .i64 0)).setCell ⟨w2.heap.size, 1, none⟩ (.int .i64 0)).setCell ⟨w2.heap.size, 2, none⟩ (.string ⟨#[]⟩)).setCell ⟨w2.heap.size, 3, none⟩ (.int .i64 0)).setCell ⟨w2.heap.size, 4, none⟩ (.int .i64 0)).heap.size = w3.heap.size := by simp [World.setCell]
  have HVS := Lib.hid hVs
  have hgr := gotR_made (((((w3.setCell ⟨w2.heap.size, 0, none⟩ (.int .i64 0)).setCell ⟨w2.heap.size, 1, none⟩ (.int .i64 0)).setCell ⟨w2.heap.size, 2, none⟩ (.string ⟨#[]⟩)).setCell ⟨w2.heap.size, 3, none⟩ (.int .i64 0)).setCell ⟨w2.heap.size, 4, none⟩ (.int .i64 0)) q.2.length
  rw [hVs] at hgr
  have HGR := Lib.hid hgr
  have kA := (Keeps.refl [] (((((w3.setCell ⟨w2.heap.size, 0, none⟩ (.int .i64 0)).setCell ⟨w2.heap.size, 1, none⟩ (.int .i64 0)).setCell ⟨w2.heap.size, 2, none⟩ (.string ⟨#[]⟩)).setCell ⟨w2.heap.size, 3, none⟩ (.int .i64 0)).setCell ⟨w2.heap.size, 4, none⟩ (.int .i64 0))).alloc (.cells (madeCells #[.pointer none] q.2.length) 38)
  have HMA := Lib.hid (rmatch_any q.2.length (by omega) q.1.size q.1 (Nat.le_refl _) q2.1 [] _ _ _ _ (kA.kr.ty HXV.out) (kA.kr.ty HX2V.out) hgr (under_of_vars _ _ HOK.out.vars) (fun v hv => by have := under_has (under_of_vars _ _ HOK2.out.vars) hv; have := HOK2.out.few; omega) (fun v u h => by simp at h))
  have HBGV := Lib.hid (block_alloc_old (o' := .cells (madeCells #[.pointer none] q.2.length) 38) bg)
  have KA := Lib.hid (KV.out.trans0 kA)
  have KA1 := Lib.hid (KV1.out.trans0 kA)
  have HN0 := Lib.hid ((SRow.of_owns (xs := q.2) HOW1V.out rfl).keep kA (by simp))
  have HO0 := Lib.hid ((SRow.of_owns (xs := q2.2) HOWV.out rfl).keep kA (by simp))
  clear hk hbg hbf hx2 hown2 hi hi0 hi1 hi2 hlt2 hw2 kw2 kw3 hxV hx2V howV how1V hmk hVs hgr kA bg bf
  go_wp2_with fail
  refine HMA.out.mono ?_
  intro e w4 hpost
  rw [HM.out] at hpost
  obtain ⟨hk4, svx, rfl, hgot⟩ := hpost
  obtain ⟨adx, capx, rfl, _⟩ := id hgot
  have HGOT := Lib.hid hgot
  have hb4 := hk4.some HBGV.out (by simp)
  have v0 := cell_of_block hb4 0
  have K4 := Lib.hid (KA.out.trans0 hk4)
  have KM := Lib.hid hk4
  clear hk4 hb4 HMA r0 r1 r2 r3 r4 y0 y1 y2 y3 y4 hmkV hgot
  simp at v0
  have HNS := Lib.hid (HN0.out.keep KM.out (by simp))
  have HOS := Lib.hid (HO0.out.keep KM.out (by simp))
  have HLS := Lib.hid ((HSN.out.keep KA1.out (by simp)).keep KM.out (by simp))
  have HTS := Lib.hid ((HST.out.keep KA1.out (by simp)).keep KM.out (by simp))
  have HIN := Lib.hid (fun (W : World) (hW : Keeps [] w4 W) (x : Bytes) => lin_any (HLS.out.keep hW (by simp)) (by rw [show (ksOf q.2).length = q.2.length from List.length_mergeSort _]; omega) x)
  have hunder := (matchT_under q.1 q2.1 [] l HM.out (under_of_vars _ _ HOK2.out.vars) (fun v u h => by simp at h)).1
  have hsizes := matchT_sizes q.1 q2.1 [] l HM.out 120 HOK2.out.size (fun v u h => by simp at h)
  have hall : ∀ v, v < q.2.length → ∃ u, l.lookup v = some u := fun v hv => (matchT_vars q.1 q2.1 [] l HM.out v).2 (.inr ((mem_varsL q.1 [] v).1 (by rw [HOK.out.vars]; simpa using hv) |>.resolve_left (by simp)))
  have HSH := Lib.hid (fun (W : World) (hW : Keeps [] w4 W) (k : Nat) (hk : k < q.2.length) => show_got HGOT.out HOS.out HOK2.out (hall k hk) hunder hsizes hk hW)
  clear hunder hsizes hall
  go_wp2_with fail
  go_loopg [119] q.2.length (fun gg i wx => ∃ (k : Nat) (wz : World), wz = wx ∧ gg = q.2.length - k ∧ i = .int .i64 k ∧ k ≤ q.2.length ∧ Keeps [] w4 wx)
  case atStart => exact ⟨0, _, rfl, rfl, rfl, by omega, Keeps.refl _ _⟩
  case round =>
    obtain ⟨k, wx, rfl, hg, rfl, hk, hkx⟩ := hrel
    have HG2 := Lib.hid hg
    have HKX := Lib.hid hkx
    clear hg hkx
    by_cases hlt : k < q.2.length
    · have hdl : decide ((k : Int) < (q.2.length : Int)) = true := by simpa using hlt
      obtain ⟨x, hx⟩ : ∃ x, q.2[k]? = some x := ⟨_, List.getElem?_eq_getElem hlt⟩
      have HX9 := Lib.hid hx
      obtain ⟨gn, hcn⟩ := (HNS.out.keep HKX.out (by simp)).cell hx
      obtain ⟨rfl, hcn⟩ := hcn
      have HCN := Lib.hid hcn
      clear hx
      go_wp2_with fail
      go_loopg [126] q.2.length (fun gg i wi => ∃ (j : Nat) (wz : World), wz = wi ∧ gg = q.2.length - j ∧ i = .int .i64 j ∧ j ≤ q.2.length ∧ Keeps [] w4 wi)
      case atStart => exact ⟨0, _, rfl, rfl, rfl, by omega, HKX.out⟩
      case round =>
        obtain ⟨j, wi, rfl, hgi, rfl, hj, hki⟩ := hrel
        have HGI := Lib.hid hgi
        have HKI := Lib.hid hki
        clear hgi hki hcn
        by_cases hjl : j < q.2.length
        · have hdj : decide ((j : Int) < (q.2.length : Int)) = true := by simpa using hjl
          obtain ⟨y, hy⟩ : ∃ y, (ksOf q.2)[j]? = some y := ⟨_, List.getElem?_eq_getElem (by rw [show (ksOf q.2).length = q.2.length from List.length_mergeSort _]; exact hjl)⟩
          have HY := Lib.hid hy
          obtain ⟨gl, rfl, hcl⟩ := (HLS.out.keep HKI.out (by simp)).cell hy
          obtain ⟨gt, rfl, hct⟩ := (HTS.out.keep HKI.out (by simp)).cell (show ((ksOf q.2).map (textOf q.2 q2.2 l))[j]? = some (textOf q.2 q2.2 l y) by rw [List.getElem?_map, hy]; rfl)
          clear hy
          go_wp2_with fail
          by_cases hyx : y = x
          · subst hyx
            have hjn : (j : Int) < (q.2.length : Int) := by omega
            have hkn : (k : Int) < (q.2.length : Int) := by omega
            obtain ⟨adz, capz, g0, px, hsx, rfl, hcg, u, hlu, hcall⟩ := HSH.out wi HKI.out k hlt
            cases hsx
            have hidx : q.2.idxOf y = k := by
              obtain ⟨h1, h2⟩ := List.getElem?_eq_some_iff.1 HX9.out
              rw [← h2]
              exact HOK.out.nodup.idxOf_getElem k h1
            have htx : textOf q.2 q2.2 l y = shown (nthN q2.2) u := by unfold textOf; rw [hidx, hlu]; rfl
            rw [htx] at hct
            have HCALL := Lib.hid (hcall wi.drew HKI.out.drew)
            have HHL := Lib.hid hcl
            have HHT := Lib.hid hct
            have HHG := Lib.hid hcg
            clear hidx htx hcall hlu
            by_cases hj0 : j = 0
            · subst hj0
              have hz0 : (0 : Int) < (q.2.length : Int) := by omega
              have hzk : (0 : Int) ≤ (k : Int) := by omega
              refine wp_region_held_drew (S := (fun W => W.cell? ⟨gl, 0, none⟩ = some (.string (bs y)) ∧ W.cell? ⟨gt, 0, none⟩ = some (.string (bs (shown (nthN q2.2) u))) ∧ W.cell? ⟨g0, k, none⟩ = some (pV px) ∧ Keeps [] wi W)) (by kernel_rfl) ?_ (fun hHeld => ?_)
              · exact ⟨hcl, hct, hcg, (Keeps.refl [] wi).drew⟩
              refine wpAnyH_take (i := 0) (oi := ?o1) (v := ?v1) ?a1 (by kernel_rfl) ?b1 ?c1 ?d1 (Or.inl ⟨?w1, ?y1⟩) (by assumption) ?r1
              case a1 => (simp only [List.getElem?_toArray, List.getElem?_cons_zero]; rfl)
              case b1 => kernel_rfl
              case c1 => kernel_rfl
              case w1 => rfl
              case y1 => (intro w hSw; (try dsimp only at hSw); first | (go_simp; done) | (go_simp; with_reducible rfl))
              case d1 => exact fun _ _ _ h => h
              try simp only [Act.put, List.setIfInBounds_toArray, List.set_cons_zero, List.set_cons_succ]
              refine wpAnyH_take (i := 1) (oi := ?o2) (v := ?v2) ?a2 (by kernel_rfl) ?b2 ?c2 ?d2 (Or.inl ⟨?w2, ?y2⟩) (by assumption) ?r2
              case a2 => (simp only [List.getElem?_toArray, List.getElem?_cons_succ, List.getElem?_cons_zero]; rfl)
              case b2 => kernel_rfl
              case c2 => kernel_rfl
              case w2 => rfl
              case y2 => (intro w hSw; (try dsimp only at hSw); first | (go_simp; done) | (go_simp; with_reducible rfl))
              case d2 => exact fun _ _ _ h => h
              try simp only [Act.put, List.setIfInBounds_toArray, List.set_cons_zero, List.set_cons_succ]
              refine wpAnyH_take (i := 2) (oi := ?o3) (v := ?v3) ?a3 (by kernel_rfl) ?b3 ?c3 ?d3 (Or.inl ⟨?w3, ?y3⟩) (by assumption) ?r3
              case a3 => (simp only [List.getElem?_toArray, List.getElem?_cons_succ, List.getElem?_cons_zero]; rfl)
              case b3 => kernel_rfl
              case c3 => kernel_rfl
              case w3 => rfl
              case y3 => (intro w hSw; (try dsimp only at hSw); first | (go_simp; done) | (go_simp; with_reducible rfl))
              case d3 => exact fun _ _ _ h => h
              try simp only [Act.put, List.setIfInBounds_toArray, List.set_cons_zero, List.set_cons_succ]
              refine wpAnyH_take (i := 3) (oi := ?o4) (v := ?v4) ?a4 (by kernel_rfl) ?b4 ?c4 ?d4 (Or.inl ⟨?w4, ?y4⟩) (by assumption) ?r4
              case a4 => (simp only [List.getElem?_toArray, List.getElem?_cons_succ, List.getElem?_cons_zero]; rfl)
              case b4 => kernel_rfl
              case c4 => kernel_rfl
              case w4 => rfl
              case y4 => (intro w hSw; (try dsimp only at hSw); first | (go_simp; done) | (go_simp; with_reducible rfl))
              case d4 => exact fun _ _ _ h => h
              try simp only [Act.put, List.setIfInBounds_toArray, List.set_cons_zero, List.set_cons_succ]
              refine wpAnyH_take (i := 4) (oi := ?o5) (v := ?v5) ?a5 (by kernel_rfl) ?b5 ?c5 ?d5 (Or.inl ⟨?w5, ?y5⟩) (by assumption) ?r5
              case a5 => (simp only [List.getElem?_toArray, List.getElem?_cons_succ, List.getElem?_cons_zero]; rfl)
              case b5 => kernel_rfl
              case c5 => kernel_rfl
              case w5 => rfl
              case y5 => (intro w hSw; (try dsimp only at hSw); first | (go_simp; done) | (go_simp; with_reducible rfl))
              case d5 => exact fun _ _ _ h => h
              try simp only [Act.put, List.setIfInBounds_toArray, List.set_cons_zero, List.set_cons_succ]
              refine wpAnyH_take (i := 5) (oi := ?o6) (v := ?v6) ?a6 (by kernel_rfl) ?b6 ?c6 ?d6 (Or.inl ⟨?w6, ?y6⟩) (by assumption) ?r6
              case a6 => (simp only [List.getElem?_toArray, List.getElem?_cons_succ, List.getElem?_cons_zero]; rfl)
              case b6 => kernel_rfl
              case c6 => kernel_rfl
              case w6 => rfl
              case y6 => (intro w hSw; (try dsimp only at hSw); first | (go_simp; done) | (go_simp; with_reducible rfl))
              case d6 => exact fun _ _ _ h => h
              try simp only [Act.put, List.setIfInBounds_toArray, List.set_cons_zero, List.set_cons_succ]
              refine wpAnyH_take (i := 6) (oi := ?o7) (v := ?v7) ?a7 (by kernel_rfl) ?b7 ?c7 ?d7 (Or.inl ⟨?w7, ?y7⟩) (by assumption) ?r7
              case a7 => (simp only [List.getElem?_toArray, List.getElem?_cons_succ, List.getElem?_cons_zero]; rfl)
              case b7 => kernel_rfl
              case c7 => kernel_rfl
              case w7 => rfl
              case y7 => (intro w hSw; (try dsimp only at hSw); first | (go_simp; done) | (go_simp; with_reducible rfl))
              case d7 => exact fun _ _ _ h => h
              try simp only [Act.put, List.setIfInBounds_toArray, List.set_cons_zero, List.set_cons_succ]
              refine wpAnyH_take (i := 7) (oi := ?o8) (v := ?v8) ?a8 (by kernel_rfl) ?b8 ?c8 ?d8 (Or.inl ⟨?w8, ?y8⟩) (by assumption) ?r8
              case a8 => (simp only [List.getElem?_toArray, List.getElem?_cons_succ, List.getElem?_cons_zero]; rfl)
              case b8 => kernel_rfl
              case c8 => kernel_rfl
              case w8 => rfl
              case y8 => (intro w hSw; (try dsimp only at hSw); first | (go_simp; done) | (go_simp; with_reducible rfl))
              case d8 => exact fun _ _ _ h => h
              try simp only [Act.put, List.setIfInBounds_toArray, List.set_cons_zero, List.set_cons_succ]
              refine wpAnyH_take (i := 8) (oi := ?o9) (v := ?v9) ?a9 (by kernel_rfl) ?b9 ?c9 ?d9 (Or.inl ⟨?w9, ?y9⟩) (by assumption) ?r9
              case a9 => (simp only [List.getElem?_toArray, List.getElem?_cons_succ, List.getElem?_cons_zero]; rfl)
              case b9 => kernel_rfl
              case c9 => kernel_rfl
              case w9 => rfl
              case y9 => (intro w hSw; (try dsimp only at hSw); first | (go_simp; done) | (go_simp; with_reducible rfl))
              case d9 => exact fun _ _ _ h => h
              try simp only [Act.put, List.setIfInBounds_toArray, List.set_cons_zero, List.set_cons_succ]
              refine wpAnyH_take (i := 9) (oi := ?o10) (v := ?v10) ?a10 (by kernel_rfl) ?b10 ?c10 ?d10 (Or.inl ⟨?w10, ?y10⟩) (by assumption) ?r10
              case a10 => (simp only [List.getElem?_toArray, List.getElem?_cons_succ, List.getElem?_cons_zero]; rfl)
              case b10 => kernel_rfl
              case c10 => kernel_rfl
              case w10 => rfl
              case y10 => (intro w hSw; (try dsimp only at hSw); first | (go_simp; done) | (go_simp; with_reducible rfl))
              case d10 => exact fun _ _ _ h => h
              try simp only [Act.put, List.setIfInBounds_toArray, List.set_cons_zero, List.set_cons_succ]
              refine wpAnyH_take (i := 10) (oi := ?o11) (v := ?v11) ?a11 (by kernel_rfl) ?b11 ?c11 ?d11 (Or.inl ⟨?w11, ?y11⟩) (by assumption) ?r11
              case a11 => (simp only [List.getElem?_toArray, List.getElem?_cons_succ, List.getElem?_cons_zero]; rfl)
              case b11 => kernel_rfl
              case c11 => kernel_rfl
              case w11 => rfl
              case y11 => (intro w hSw; (try dsimp only at hSw); first | (go_simp; done) | (go_simp; with_reducible rfl))
              case d11 => exact fun _ _ _ h => h
              try simp only [Act.put, List.setIfInBounds_toArray, List.set_cons_zero, List.set_cons_succ]
              refine wpAnyH_take (i := 11) (oi := ?o12) (v := ?v12) ?a12 (by kernel_rfl) ?b12 ?c12 ?d12 (Or.inl ⟨?w12, ?y12⟩) (by assumption) ?r12
              case a12 => (simp only [List.getElem?_toArray, List.getElem?_cons_succ, List.getElem?_cons_zero]; rfl)
              case b12 => kernel_rfl
              case c12 => kernel_rfl
              case w12 => rfl
              case y12 => (intro w hSw; (try dsimp only at hSw); first | (go_simp; done) | (go_simp; with_reducible rfl))
              case d12 => exact fun _ _ _ h => h
              try simp only [Act.put, List.setIfInBounds_toArray, List.set_cons_zero, List.set_cons_succ]
              refine wpAnyH_take (i := 12) (oi := ?o13) (v := ?v13) ?a13 (by kernel_rfl) ?b13 ?c13 ?d13 (Or.inl ⟨?w13, ?y13⟩) (by assumption) ?r13
              case a13 => (simp only [List.getElem?_toArray, List.getElem?_cons_succ, List.getElem?_cons_zero]; rfl)
              case b13 => kernel_rfl
              case c13 => kernel_rfl
              case w13 => rfl
              case y13 => (intro w hSw; (try dsimp only at hSw); first | (go_simp; done) | (go_simp; with_reducible rfl))
              case d13 => exact fun _ _ _ h => h
              try simp only [Act.put, List.setIfInBounds_toArray, List.set_cons_zero, List.set_cons_succ]
              refine wpAnyH_take (i := 13) (oi := ?o14) (v := ?v14) ?a14 (by kernel_rfl) ?b14 ?c14 ?d14 (Or.inl ⟨?w14, ?y14⟩) (by assumption) ?r14
              case a14 => (simp only [List.getElem?_toArray, List.getElem?_cons_succ, List.getElem?_cons_zero]; rfl)
              case b14 => kernel_rfl
              case c14 => kernel_rfl
              case w14 => rfl
              case y14 => (intro w hSw; (try dsimp only at hSw); first | (go_simp; done) | (go_simp; with_reducible rfl))
              case d14 => exact fun _ _ _ h => h
              try simp only [Act.put, List.setIfInBounds_toArray, List.set_cons_zero, List.set_cons_succ]
              refine wpAnyH_take (i := 14) (oi := ?o15) (v := ?v15) ?a15 (by kernel_rfl) ?b15 ?c15 ?d15 (Or.inl ⟨?w15, ?y15⟩) (by assumption) ?r15
              case a15 => (simp only [List.getElem?_toArray, List.getElem?_cons_succ, List.getElem?_cons_zero]; rfl)
              case b15 => kernel_rfl
              case c15 => kernel_rfl
              case w15 => rfl
              case y15 => (intro w hSw; (try dsimp only at hSw); first | (go_simp; done) | (go_simp; with_reducible rfl))
              case d15 => exact fun _ _ _ h => h
              try simp only [Act.put, List.setIfInBounds_toArray, List.set_cons_zero, List.set_cons_succ]
              refine wpAnyH_take (i := 15) (oi := ?o16) (v := ?v16) ?a16 (by kernel_rfl) ?b16 ?c16 ?d16 (Or.inl ⟨?w16, ?y16⟩) (by assumption) ?r16
              case a16 => (simp only [List.getElem?_toArray, List.getElem?_cons_succ, List.getElem?_cons_zero]; rfl)
              case b16 => kernel_rfl
              case c16 => kernel_rfl
              case w16 => rfl
              case y16 => (intro w hSw; (try dsimp only at hSw); first | (go_simp; done) | (go_simp; with_reducible rfl))
              case d16 => exact fun _ _ _ h => h
              try simp only [Act.put, List.setIfInBounds_toArray, List.set_cons_zero, List.set_cons_succ]
              refine wpAnyH_ready (rs := [16]) (by kernel_rfl) (by simp) ?_
              refine AllReadyH.cons rfl (fun K hK => ?_) ?_
              · go_simp
                refine HCALL.out.mono ?_
                rintro e Wb ⟨rfl, hzb⟩
                have hkb : Keeps [] wi Wb := (Keeps.refl [] wi).drew.trans0 hzb
                go_wp2_with fail
                refine hK.out _ _ ⟨hkb.cellSome HHL.out (by simp), hkb.cellSome HHT.out (by simp), hkb.cellSome HHG.out (by simp), hkb⟩ (fun hHeld2 => ?_)
                clear hK K hHeld hzb
                try simp only [Act.put, List.setIfInBounds_toArray, List.set_cons_zero, List.set_cons_succ]
                refine wpAnyH_take (i := 17) (oi := ?o17) (v := ?v17) ?a17 (by kernel_rfl) ?b17 ?c17 ?d17 (Or.inl ⟨?w17, ?y17⟩) (by assumption) ?r17
                case a17 => (simp only [List.getElem?_toArray, List.getElem?_cons_succ, List.getElem?_cons_zero]; rfl)
                case b17 => kernel_rfl
                case c17 => kernel_rfl
                case w17 => rfl
                case y17 => (intro w hSw; (try dsimp only at hSw); first | (go_simp; done) | (go_simp; with_reducible rfl))
                case d17 => exact fun _ _ _ h => h
                try simp only [Act.put, List.setIfInBounds_toArray, List.set_cons_zero, List.set_cons_succ]
                refine wpAnyH_take (i := 18) (oi := ?o18) (v := ?v18) ?a18 (by kernel_rfl) ?b18 ?c18 ?d18 (Or.inl ⟨?w18, ?y18⟩) (by assumption) ?r18
                case a18 => (simp only [List.getElem?_toArray, List.getElem?_cons_succ, List.getElem?_cons_zero]; rfl)
                case b18 => kernel_rfl
                case c18 => kernel_rfl
                case w18 => rfl
                case y18 => (intro w hSw; (try dsimp only at hSw); first | (go_simp; done) | (go_simp; with_reducible rfl))
                case d18 => exact fun _ _ _ h => h
                try simp only [Act.put, List.setIfInBounds_toArray, List.set_cons_zero, List.set_cons_succ]
                refine wpAnyH_take (i := 19) (oi := ?o19) (v := ?v19) ?a19 (by kernel_rfl) ?b19 ?c19 ?d19 (Or.inl ⟨?w19, ?y19⟩) (by assumption) ?r19
                case a19 => (simp only [List.getElem?_toArray, List.getElem?_cons_succ, List.getElem?_cons_zero]; rfl)
                case b19 => kernel_rfl
                case c19 => kernel_rfl
                case w19 => rfl
                case y19 => (intro w hSw; (try dsimp only at hSw); first | (go_simp; done) | (go_simp; with_reducible rfl))
                case d19 => exact fun _ _ _ h => h
                try simp only [Act.put, List.setIfInBounds_toArray, List.set_cons_zero, List.set_cons_succ]
                refine wpAnyH_take (i := 20) (oi := ?o20) (v := ?v20) ?a20 (by kernel_rfl) ?b20 ?c20 ?d20 (Or.inl ⟨?w20, ?y20⟩) (by assumption) ?r20
                case a20 => (simp only [List.getElem?_toArray, List.getElem?_cons_succ, List.getElem?_cons_zero]; rfl)
                case b20 => kernel_rfl
                case c20 => kernel_rfl
                case w20 => rfl
                case y20 => (intro w hSw; (try dsimp only at hSw); first | (go_simp; done) | (go_simp; with_reducible rfl))
                case d20 => exact fun _ _ _ h => h
                try simp only [Act.put, List.setIfInBounds_toArray, List.set_cons_zero, List.set_cons_succ]
                refine wpAnyH_take (i := 21) (oi := ?o21) (v := ?v21) ?a21 (by kernel_rfl) ?b21 ?c21 ?d21 (Or.inl ⟨?w21, ?y21⟩) (by assumption) ?r21
                case a21 => (simp only [List.getElem?_toArray, List.getElem?_cons_succ, List.getElem?_cons_zero]; rfl)
                case b21 => kernel_rfl
                case c21 => kernel_rfl
                case w21 => rfl
                case y21 => (intro w hSw; (try dsimp only at hSw); first | (go_simp; done) | (go_simp; with_reducible rfl))
                case d21 => exact fun _ _ _ h => h
                try simp only [Act.put, List.setIfInBounds_toArray, List.set_cons_zero, List.set_cons_succ]
                refine wpAnyH_take (i := 22) (oi := ?o22) (v := ?v22) ?a22 (by kernel_rfl) ?b22 ?c22 ?d22 (Or.inl ⟨?w22, ?y22⟩) (by assumption) ?r22
                case a22 => (simp only [List.getElem?_toArray, List.getElem?_cons_succ, List.getElem?_cons_zero]; rfl)
                case b22 => kernel_rfl
                case c22 => kernel_rfl
                case w22 => rfl
                case y22 => (intro w hSw; (try dsimp only at hSw); first | (go_simp; done) | (go_simp; with_reducible rfl))
                case d22 => exact fun _ _ _ h => h
                try simp only [Act.put, List.setIfInBounds_toArray, List.set_cons_zero, List.set_cons_succ]
                refine wpAnyH_take (i := 23) (oi := ?o23) (v := undef) ?a23 (by kernel_rfl) ?b23 ?c23 ?d23 (Or.inr ⟨?w23, rfl⟩) (by assumption) ?r23
                case a23 => (simp only [List.getElem?_toArray, List.getElem?_cons_succ, List.getElem?_cons_zero]; rfl)
                case b23 => kernel_rfl
                case c23 => kernel_rfl
                case w23 => rfl
                case d23 => exact fun _ _ _ h => h
                try simp only [Act.put, List.setIfInBounds_toArray, List.set_cons_zero, List.set_cons_succ]
                refine wpAnyH_take (i := 24) (oi := ?o24) (v := undef) ?a24 (by kernel_rfl) ?b24 ?c24 ?d24 (Or.inr ⟨?w24, rfl⟩) (by assumption) ?r24
                case a24 => (simp only [List.getElem?_toArray, List.getElem?_cons_succ, List.getElem?_cons_zero]; rfl)
                case b24 => kernel_rfl
                case c24 => kernel_rfl
                case w24 => rfl
                case d24 => exact fun _ _ _ h => h
                try simp only [Act.put, List.setIfInBounds_toArray, List.set_cons_zero, List.set_cons_succ]
                refine wpAnyH_take (i := 25) (oi := ?o25) (v := undef) ?a25 (by kernel_rfl) ?b25 ?c25 ?d25 (Or.inr ⟨?w25, rfl⟩) (by assumption) ?r25
                case a25 => (simp only [List.getElem?_toArray, List.getElem?_cons_succ, List.getElem?_cons_zero]; rfl)
                case b25 => kernel_rfl
                case c25 => kernel_rfl
                case w25 => rfl
                case d25 => exact fun _ _ _ h => h
                try simp only [Act.put, List.setIfInBounds_toArray, List.set_cons_zero, List.set_cons_succ]
                refine wpAnyH_take (i := 26) (oi := ?o26) (v := undef) ?a26 (by kernel_rfl) ?b26 ?c26 ?d26 (Or.inr ⟨?w26, rfl⟩) (by assumption) ?r26
                case a26 => (simp only [List.getElem?_toArray, List.getElem?_cons_succ, List.getElem?_cons_zero]; rfl)
                case b26 => kernel_rfl
                case c26 => kernel_rfl
                case w26 => rfl
                case d26 => exact fun _ _ _ h => h
                try simp only [Act.put, List.setIfInBounds_toArray, List.set_cons_zero, List.set_cons_succ]
                refine wpAnyH_take (i := 27) (oi := ?o27) (v := undef) ?a27 (by kernel_rfl) ?b27 ?c27 ?d27 (Or.inr ⟨?w27, rfl⟩) (by assumption) ?r27
                case a27 => (simp only [List.getElem?_toArray, List.getElem?_cons_succ, List.getElem?_cons_zero]; rfl)
                case b27 => kernel_rfl
                case c27 => kernel_rfl
                case w27 => rfl
                case d27 => exact fun _ _ _ h => h
                try simp only [Act.put, List.setIfInBounds_toArray, List.set_cons_zero, List.set_cons_succ]
                refine wpAnyH_take (i := 28) (oi := ?o28) (v := undef) ?a28 (by kernel_rfl) ?b28 ?c28 ?d28 (Or.inr ⟨?w28, rfl⟩) (by assumption) ?r28
                case a28 => (simp only [List.getElem?_toArray, List.getElem?_cons_succ, List.getElem?_cons_zero]; rfl)
                case b28 => kernel_rfl
                case c28 => kernel_rfl
                case w28 => rfl
                case d28 => exact fun _ _ _ h => h
                try simp only [Act.put, List.setIfInBounds_toArray, List.set_cons_zero, List.set_cons_succ]
                refine wpAnyH_take (i := 29) (oi := ?o29) (v := undef) ?a29 (by kernel_rfl) ?b29 ?c29 ?d29 (Or.inr ⟨?w29, rfl⟩) (by assumption) ?r29
                case a29 => (simp only [List.getElem?_toArray, List.getElem?_cons_succ, List.getElem?_cons_zero]; rfl)
                case b29 => kernel_rfl
                case c29 => kernel_rfl
                case w29 => rfl
                case d29 => exact fun _ _ _ h => h
                try simp only [Act.put, List.setIfInBounds_toArray, List.set_cons_zero, List.set_cons_succ]
                refine wpAnyH_take (i := 30) (oi := ?o30) (v := undef) ?a30 (by kernel_rfl) ?b30 ?c30 ?d30 (Or.inr ⟨?w30, rfl⟩) (by assumption) ?r30
                case a30 => (simp only [List.getElem?_toArray, List.getElem?_cons_succ, List.getElem?_cons_zero]; rfl)
                case b30 => kernel_rfl
                case c30 => kernel_rfl
                case w30 => rfl
                case d30 => exact fun _ _ _ h => h
                try simp only [Act.put, List.setIfInBounds_toArray, List.set_cons_zero, List.set_cons_succ]
                refine wpAnyH_take (i := 31) (oi := ?o31) (v := undef) ?a31 (by kernel_rfl) ?b31 ?c31 ?d31 (Or.inr ⟨?w31, rfl⟩) (by assumption) ?r31
                case a31 => (simp only [List.getElem?_toArray, List.getElem?_cons_succ, List.getElem?_cons_zero]; rfl)
                case b31 => kernel_rfl
                case c31 => kernel_rfl
                case w31 => rfl
                case d31 => exact fun _ _ _ h => h
                try simp only [Act.put, List.setIfInBounds_toArray, List.set_cons_zero, List.set_cons_succ]
                refine wpAnyH_take (i := 32) (oi := ?o32) (v := undef) ?a32 (by kernel_rfl) ?b32 ?c32 ?d32 (Or.inr ⟨?w32, rfl⟩) (by assumption) ?r32
                case a32 => (simp only [List.getElem?_toArray, List.getElem?_cons_succ, List.getElem?_cons_zero]; rfl)
                case b32 => kernel_rfl
                case c32 => kernel_rfl
                case w32 => rfl
                case d32 => exact fun _ _ _ h => h
                try simp only [Act.put, List.setIfInBounds_toArray, List.set_cons_zero, List.set_cons_succ]
                refine wpAnyH_take (i := 33) (oi := ?o33) (v := ?v33) ?a33 (by kernel_rfl) ?b33 ?c33 ?d33 (Or.inl ⟨?w33, ?y33⟩) (by assumption) ?r33
                case a33 => (simp only [List.getElem?_toArray, List.getElem?_cons_succ, List.getElem?_cons_zero]; rfl)
                case b33 => kernel_rfl
                case c33 => kernel_rfl
                case w33 => rfl
                case y33 => (intro w hSw; (try dsimp only at hSw); first | (go_simp; done) | (go_simp; with_reducible rfl))
                case d33 => exact fun _ _ _ h => h
                try simp only [Act.put, List.setIfInBounds_toArray, List.set_cons_zero, List.set_cons_succ]
                refine wpAnyH_take (i := 34) (oi := ?o34) (v := ?v34) ?a34 (by kernel_rfl) ?b34 ?c34 ?d34 (Or.inl ⟨?w34, ?y34⟩) (by assumption) ?r34
                case a34 => (simp only [List.getElem?_toArray, List.getElem?_cons_succ, List.getElem?_cons_zero]; rfl)
                case b34 => kernel_rfl
                case c34 => kernel_rfl
                case w34 => rfl
                case y34 => (intro w hSw; (try dsimp only at hSw); first | (go_simp; done) | (go_simp; with_reducible rfl))
                case d34 => exact fun _ _ _ h => h
                try simp only [Act.put, List.setIfInBounds_toArray, List.set_cons_zero, List.set_cons_succ]
                refine wpAnyH_done (by kernel_rfl) ?_ _
                go_wp2_with fail
                go_roundg (q.2.length - 1)
                case measure => have := HGI.out; omega
                case rel => exact ⟨1, _, rfl, rfl, by go_num, by omega, HKI.out.trans0 hkb⟩
              · exact AllReadyH.nil
            · obtain ⟨j', rfl⟩ : ∃ j', j = j' + 1 := ⟨j - 1, by omega⟩
              obtain ⟨y', hy'⟩ : ∃ y', (ksOf q.2)[j']? = some y' := ⟨_, List.getElem?_eq_getElem (by rw [show (ksOf q.2).length = q.2.length from List.length_mergeSort _]; omega)⟩
              obtain ⟨gl', hgl', hcl'⟩ := (HLS.out.keep HKI.out (by simp)).cell hy'
              cases hgl'
              have hrise : y' < y := ks_rise HOK.out.nodup hy' HY.out
              have hbl : Op.bytesLess (bs y').toList (bs y).toList = true := bytes_rise hrise
              have hjn' : (j' : Int) < (q.2.length : Int) := by omega
              clear hrise hy' hj0
              have HHP := Lib.hid hcl'
              have hjA : (0 : Int) ≤ (j' : Int) + 1 := by omega
              have hjB : (j' : Int) + 1 < (q.2.length : Int) := by omega
              have hjC : (0 : Int) ≤ (j' : Int) := by omega
              have hjW : IntKind.i64.wrap (j' : Int) = (j' : Int) := IntWalk.i64_in _ (by have := HOK.out.few; omega)
              have hzk : (0 : Int) ≤ (k : Int) := by omega
              refine wp_region_held_drew (S := (fun W => W.cell? ⟨gl, j' + 1, none⟩ = some (.string (bs y)) ∧ W.cell? ⟨gl, j', none⟩ = some (.string (bs y')) ∧ W.cell? ⟨gt, j' + 1, none⟩ = some (.string (bs (shown (nthN q2.2) u))) ∧ W.cell? ⟨g0, k, none⟩ = some (pV px) ∧ Keeps [] wi W)) (by kernel_rfl) ?_ (fun hHeld => ?_)
              · exact ⟨hcl, hcl', hct, hcg, (Keeps.refl [] wi).drew⟩
              refine wpAnyH_take (i := 0) (oi := ?o35) (v := ?v35) ?a35 (by kernel_rfl) ?b35 ?c35 ?d35 (Or.inl ⟨?w35, ?y35⟩) (by assumption) ?r35
              case a35 => (simp only [List.getElem?_toArray, List.getElem?_cons_zero]; rfl)
              case b35 => kernel_rfl
              case c35 => kernel_rfl
              case w35 => rfl
              case y35 => (intro w hSw; (try dsimp only at hSw); first | (go_simp; done) | (go_simp; with_reducible rfl))
              case d35 => exact fun _ _ _ h => h
              try simp only [Act.put, List.setIfInBounds_toArray, List.set_cons_zero, List.set_cons_succ]
              refine wpAnyH_take (i := 1) (oi := ?o36) (v := ?v36) ?a36 (by kernel_rfl) ?b36 ?c36 ?d36 (Or.inl ⟨?w36, ?y36⟩) (by assumption) ?r36
              case a36 => (simp only [List.getElem?_toArray, List.getElem?_cons_succ, List.getElem?_cons_zero]; rfl)
              case b36 => kernel_rfl
              case c36 => kernel_rfl
              case w36 => rfl
              case y36 => (intro w hSw; (try dsimp only at hSw); first | (go_simp; done) | (go_simp; with_reducible rfl))
              case d36 => exact fun _ _ _ h => h
              try simp only [Act.put, List.setIfInBounds_toArray, List.set_cons_zero, List.set_cons_succ]
              refine wpAnyH_take (i := 2) (oi := ?o37) (v := ?v37) ?a37 (by kernel_rfl) ?b37 ?c37 ?d37 (Or.inl ⟨?w37, ?y37⟩) (by assumption) ?r37
              case a37 => (simp only [List.getElem?_toArray, List.getElem?_cons_succ, List.getElem?_cons_zero]; rfl)
              case b37 => kernel_rfl
              case c37 => kernel_rfl
              case w37 => rfl
              case y37 => (intro w hSw; (try dsimp only at hSw); first | (go_simp; done) | (go_simp; with_reducible rfl))
              case d37 => exact fun _ _ _ h => h
              try simp only [Act.put, List.setIfInBounds_toArray, List.set_cons_zero, List.set_cons_succ]
              refine wpAnyH_take (i := 3) (oi := ?o38) (v := ?v38) ?a38 (by kernel_rfl) ?b38 ?c38 ?d38 (Or.inl ⟨?w38, ?y38⟩) (by assumption) ?r38
              case a38 => (simp only [List.getElem?_toArray, List.getElem?_cons_succ, List.getElem?_cons_zero]; rfl)
              case b38 => kernel_rfl
              case c38 => kernel_rfl
              case w38 => rfl
              case y38 => (intro w hSw; (try dsimp only at hSw); first | (go_simp; done) | (go_simp; with_reducible rfl))
              case d38 => exact fun _ _ _ h => h
              try simp only [Act.put, List.setIfInBounds_toArray, List.set_cons_zero, List.set_cons_succ]
              refine wpAnyH_take (i := 4) (oi := ?o39) (v := ?v39) ?a39 (by kernel_rfl) ?b39 ?c39 ?d39 (Or.inl ⟨?w39, ?y39⟩) (by assumption) ?r39
              case a39 => (simp only [List.getElem?_toArray, List.getElem?_cons_succ, List.getElem?_cons_zero]; rfl)
              case b39 => kernel_rfl
              case c39 => kernel_rfl
              case w39 => rfl
              case y39 => (intro w hSw; (try dsimp only at hSw); first | (go_simp; done) | (go_simp; with_reducible rfl))
              case d39 => exact fun _ _ _ h => h
              try simp only [Act.put, List.setIfInBounds_toArray, List.set_cons_zero, List.set_cons_succ]
              refine wpAnyH_take (i := 5) (oi := ?o40) (v := ?v40) ?a40 (by kernel_rfl) ?b40 ?c40 ?d40 (Or.inl ⟨?w40, ?y40⟩) (by assumption) ?r40
              case a40 => (simp only [List.getElem?_toArray, List.getElem?_cons_succ, List.getElem?_cons_zero]; rfl)
              case b40 => kernel_rfl
              case c40 => kernel_rfl
              case w40 => rfl
              case y40 => (intro w hSw; (try dsimp only at hSw); first | (go_simp; done) | (go_simp; with_reducible rfl))
              case d40 => exact fun _ _ _ h => h
              try simp only [Act.put, List.setIfInBounds_toArray, List.set_cons_zero, List.set_cons_succ]
              refine wpAnyH_take (i := 6) (oi := ?o41) (v := ?v41) ?a41 (by kernel_rfl) ?b41 ?c41 ?d41 (Or.inl ⟨?w41, ?y41⟩) (by assumption) ?r41
              case a41 => (simp only [List.getElem?_toArray, List.getElem?_cons_succ, List.getElem?_cons_zero]; rfl)
              case b41 => kernel_rfl
              case c41 => kernel_rfl
              case w41 => rfl
              case y41 => (intro w hSw; (try dsimp only at hSw); first | (go_simp; done) | (go_simp; with_reducible rfl))
              case d41 => exact fun _ _ _ h => h
              try simp only [Act.put, List.setIfInBounds_toArray, List.set_cons_zero, List.set_cons_succ]
              refine wpAnyH_take (i := 7) (oi := ?o42) (v := ?v42) ?a42 (by kernel_rfl) ?b42 ?c42 ?d42 (Or.inl ⟨?w42, ?y42⟩) (by assumption) ?r42
              case a42 => (simp only [List.getElem?_toArray, List.getElem?_cons_succ, List.getElem?_cons_zero]; rfl)
              case b42 => kernel_rfl
              case c42 => kernel_rfl
              case w42 => rfl
              case y42 => (intro w hSw; (try dsimp only at hSw); first | (go_simp; done) | (go_simp; with_reducible rfl))
              case d42 => exact fun _ _ _ h => h
              try simp only [Act.put, List.setIfInBounds_toArray, List.set_cons_zero, List.set_cons_succ]
              refine wpAnyH_take (i := 8) (oi := ?o43) (v := ?v43) ?a43 (by kernel_rfl) ?b43 ?c43 ?d43 (Or.inl ⟨?w43, ?y43⟩) (by assumption) ?r43
              case a43 => (simp only [List.getElem?_toArray, List.getElem?_cons_succ, List.getElem?_cons_zero]; rfl)
              case b43 => kernel_rfl
              case c43 => kernel_rfl
              case w43 => rfl
              case y43 => (intro w hSw; (try dsimp only at hSw); first | (go_simp; done) | (go_simp; with_reducible rfl))
              case d43 => exact fun _ _ _ h => h
              try simp only [Act.put, List.setIfInBounds_toArray, List.set_cons_zero, List.set_cons_succ]
              refine wpAnyH_take (i := 9) (oi := ?o44) (v := ?v44) ?a44 (by kernel_rfl) ?b44 ?c44 ?d44 (Or.inl ⟨?w44, ?y44⟩) (by assumption) ?r44
              case a44 => (simp only [List.getElem?_toArray, List.getElem?_cons_succ, List.getElem?_cons_zero]; rfl)
              case b44 => kernel_rfl
              case c44 => kernel_rfl
              case w44 => rfl
              case y44 => (intro w hSw; (try dsimp only at hSw); first | (go_simp; done) | (go_simp; with_reducible rfl))
              case d44 => exact fun _ _ _ h => h
              try simp only [Act.put, List.setIfInBounds_toArray, List.set_cons_zero, List.set_cons_succ]
              refine wpAnyH_take (i := 10) (oi := ?o45) (v := ?v45) ?a45 (by kernel_rfl) ?b45 ?c45 ?d45 (Or.inl ⟨?w45, ?y45⟩) (by assumption) ?r45
              case a45 => (simp only [List.getElem?_toArray, List.getElem?_cons_succ, List.getElem?_cons_zero]; rfl)
              case b45 => kernel_rfl
              case c45 => kernel_rfl
              case w45 => rfl
              case y45 => (intro w hSw; (try dsimp only at hSw); first | (go_simp; done) | (go_simp; with_reducible rfl))
              case d45 => exact fun _ _ _ h => h
              try simp only [Act.put, List.setIfInBounds_toArray, List.set_cons_zero, List.set_cons_succ]
              refine wpAnyH_take (i := 11) (oi := ?o46) (v := ?v46) ?a46 (by kernel_rfl) ?b46 ?c46 ?d46 (Or.inl ⟨?w46, ?y46⟩) (by assumption) ?r46
              case a46 => (simp only [List.getElem?_toArray, List.getElem?_cons_succ, List.getElem?_cons_zero]; rfl)
              case b46 => kernel_rfl
              case c46 => kernel_rfl
              case w46 => rfl
              case y46 => (intro w hSw; (try dsimp only at hSw); first | (go_simp; done) | (go_simp; with_reducible rfl))
              case d46 => exact fun _ _ _ h => h
              try simp only [Act.put, List.setIfInBounds_toArray, List.set_cons_zero, List.set_cons_succ]
              refine wpAnyH_take (i := 12) (oi := ?o47) (v := ?v47) ?a47 (by kernel_rfl) ?b47 ?c47 ?d47 (Or.inl ⟨?w47, ?y47⟩) (by assumption) ?r47
              case a47 => (simp only [List.getElem?_toArray, List.getElem?_cons_succ, List.getElem?_cons_zero]; rfl)
              case b47 => kernel_rfl
              case c47 => kernel_rfl
              case w47 => rfl
              case y47 => (intro w hSw; (try dsimp only at hSw); first | (go_simp; done) | (go_simp; with_reducible rfl))
              case d47 => exact fun _ _ _ h => h
              try simp only [Act.put, List.setIfInBounds_toArray, List.set_cons_zero, List.set_cons_succ]
              refine wpAnyH_take (i := 13) (oi := ?o48) (v := ?v48) ?a48 (by kernel_rfl) ?b48 ?c48 ?d48 (Or.inl ⟨?w48, ?y48⟩) (by assumption) ?r48
              case a48 => (simp only [List.getElem?_toArray, List.getElem?_cons_succ, List.getElem?_cons_zero]; rfl)
              case b48 => kernel_rfl
              case c48 => kernel_rfl
              case w48 => rfl
              case y48 => (intro w hSw; (try dsimp only at hSw); first | (go_simp; done) | (go_simp; with_reducible rfl))
              case d48 => exact fun _ _ _ h => h
              try simp only [Act.put, List.setIfInBounds_toArray, List.set_cons_zero, List.set_cons_succ]
              refine wpAnyH_take (i := 14) (oi := ?o49) (v := ?v49) ?a49 (by kernel_rfl) ?b49 ?c49 ?d49 (Or.inl ⟨?w49, ?y49⟩) (by assumption) ?r49
              case a49 => (simp only [List.getElem?_toArray, List.getElem?_cons_succ, List.getElem?_cons_zero]; rfl)
              case b49 => kernel_rfl
              case c49 => kernel_rfl
              case w49 => rfl
              case y49 => (intro w hSw; (try dsimp only at hSw); first | (go_simp; done) | (go_simp; with_reducible rfl))
              case d49 => exact fun _ _ _ h => h
              try simp only [Act.put, List.setIfInBounds_toArray, List.set_cons_zero, List.set_cons_succ]
              refine wpAnyH_take (i := 15) (oi := ?o50) (v := ?v50) ?a50 (by kernel_rfl) ?b50 ?c50 ?d50 (Or.inl ⟨?w50, ?y50⟩) (by assumption) ?r50
              case a50 => (simp only [List.getElem?_toArray, List.getElem?_cons_succ, List.getElem?_cons_zero]; rfl)
              case b50 => kernel_rfl
              case c50 => kernel_rfl
              case w50 => rfl
              case y50 => (intro w hSw; (try dsimp only at hSw); first | (go_simp; done) | (go_simp; with_reducible rfl))
              case d50 => exact fun _ _ _ h => h
              try simp only [Act.put, List.setIfInBounds_toArray, List.set_cons_zero, List.set_cons_succ]
              refine wpAnyH_ready (rs := [16]) (by kernel_rfl) (by simp) ?_
              refine AllReadyH.cons rfl (fun K hK => ?_) ?_
              · go_simp
                refine HCALL.out.mono ?_
                rintro e Wb ⟨rfl, hzb⟩
                have hkb : Keeps [] wi Wb := (Keeps.refl [] wi).drew.trans0 hzb
                go_wp2_with fail
                refine hK.out _ _ ⟨hkb.cellSome HHL.out (by simp), hkb.cellSome HHP.out (by simp), hkb.cellSome HHT.out (by simp), hkb.cellSome HHG.out (by simp), hkb⟩ (fun hHeld2 => ?_)
                clear hK K hHeld hzb
                try simp only [Act.put, List.setIfInBounds_toArray, List.set_cons_zero, List.set_cons_succ]
                refine wpAnyH_take (i := 17) (oi := ?o51) (v := ?v51) ?a51 (by kernel_rfl) ?b51 ?c51 ?d51 (Or.inl ⟨?w51, ?y51⟩) (by assumption) ?r51
                case a51 => (simp only [List.getElem?_toArray, List.getElem?_cons_succ, List.getElem?_cons_zero]; rfl)
                case b51 => kernel_rfl
                case c51 => kernel_rfl
                case w51 => rfl
                case y51 => (intro w hSw; (try dsimp only at hSw); first | (go_simp; done) | (go_simp; with_reducible rfl))
                case d51 => exact fun _ _ _ h => h
                try simp only [Act.put, List.setIfInBounds_toArray, List.set_cons_zero, List.set_cons_succ]
                refine wpAnyH_take (i := 18) (oi := ?o52) (v := ?v52) ?a52 (by kernel_rfl) ?b52 ?c52 ?d52 (Or.inl ⟨?w52, ?y52⟩) (by assumption) ?r52
                case a52 => (simp only [List.getElem?_toArray, List.getElem?_cons_succ, List.getElem?_cons_zero]; rfl)
                case b52 => kernel_rfl
                case c52 => kernel_rfl
                case w52 => rfl
                case y52 => (intro w hSw; (try dsimp only at hSw); first | (go_simp; done) | (go_simp; with_reducible rfl))
                case d52 => exact fun _ _ _ h => h
                try simp only [Act.put, List.setIfInBounds_toArray, List.set_cons_zero, List.set_cons_succ]
                refine wpAnyH_take (i := 19) (oi := ?o53) (v := ?v53) ?a53 (by kernel_rfl) ?b53 ?c53 ?d53 (Or.inl ⟨?w53, ?y53⟩) (by assumption) ?r53
                case a53 => (simp only [List.getElem?_toArray, List.getElem?_cons_succ, List.getElem?_cons_zero]; rfl)
                case b53 => kernel_rfl
                case c53 => kernel_rfl
                case w53 => rfl
                case y53 => (intro w hSw; (try dsimp only at hSw); first | (go_simp; done) | (go_simp; with_reducible rfl))
                case d53 => exact fun _ _ _ h => h
                try simp only [Act.put, List.setIfInBounds_toArray, List.set_cons_zero, List.set_cons_succ]
                refine wpAnyH_take (i := 20) (oi := ?o54) (v := ?v54) ?a54 (by kernel_rfl) ?b54 ?c54 ?d54 (Or.inl ⟨?w54, ?y54⟩) (by assumption) ?r54
                case a54 => (simp only [List.getElem?_toArray, List.getElem?_cons_succ, List.getElem?_cons_zero]; rfl)
                case b54 => kernel_rfl
                case c54 => kernel_rfl
                case w54 => rfl
                case y54 => (intro w hSw; (try dsimp only at hSw); first | (go_simp; done) | (go_simp; with_reducible rfl))
                case d54 => exact fun _ _ _ h => h
                try simp only [Act.put, List.setIfInBounds_toArray, List.set_cons_zero, List.set_cons_succ]
                refine wpAnyH_take (i := 21) (oi := ?o55) (v := ?v55) ?a55 (by kernel_rfl) ?b55 ?c55 ?d55 (Or.inl ⟨?w55, ?y55⟩) (by assumption) ?r55
                case a55 => (simp only [List.getElem?_toArray, List.getElem?_cons_succ, List.getElem?_cons_zero]; rfl)
                case b55 => kernel_rfl
                case c55 => kernel_rfl
                case w55 => rfl
                case y55 => (intro w hSw; (try dsimp only at hSw); first | (go_simp; done) | (go_simp; with_reducible rfl))
                case d55 => exact fun _ _ _ h => h
                try simp only [Act.put, List.setIfInBounds_toArray, List.set_cons_zero, List.set_cons_succ]
                refine wpAnyH_take (i := 22) (oi := ?o56) (v := ?v56) ?a56 (by kernel_rfl) ?b56 ?c56 ?d56 (Or.inl ⟨?w56, ?y56⟩) (by assumption) ?r56
                case a56 => (simp only [List.getElem?_toArray, List.getElem?_cons_succ, List.getElem?_cons_zero]; rfl)
                case b56 => kernel_rfl
                case c56 => kernel_rfl
                case w56 => rfl
                case y56 => (intro w hSw; (try dsimp only at hSw); first | (go_simp; done) | (go_simp; with_reducible rfl))
                case d56 => exact fun _ _ _ h => h
                try simp only [Act.put, List.setIfInBounds_toArray, List.set_cons_zero, List.set_cons_succ]
                refine wpAnyH_take (i := 23) (oi := ?o57) (v := ?v57) ?a57 (by kernel_rfl) ?b57 ?c57 ?d57 (Or.inl ⟨?w57, ?y57⟩) (by assumption) ?r57
                case a57 => (simp only [List.getElem?_toArray, List.getElem?_cons_succ, List.getElem?_cons_zero]; rfl)
                case b57 => kernel_rfl
                case c57 => kernel_rfl
                case w57 => rfl
                case y57 => (intro w hSw; (try dsimp only at hSw); first | (go_simp; done) | (go_simp; with_reducible rfl))
                case d57 => exact fun _ _ _ h => h
                try simp only [Act.put, List.setIfInBounds_toArray, List.set_cons_zero, List.set_cons_succ]
                refine wpAnyH_take (i := 24) (oi := ?o58) (v := ?v58) ?a58 (by kernel_rfl) ?b58 ?c58 ?d58 (Or.inl ⟨?w58, ?y58⟩) (by assumption) ?r58
                case a58 => (simp only [List.getElem?_toArray, List.getElem?_cons_succ, List.getElem?_cons_zero]; rfl)
                case b58 => kernel_rfl
                case c58 => kernel_rfl
                case w58 => rfl
                case y58 => (intro w hSw; (try dsimp only at hSw); first | (go_simp; done) | (go_simp; with_reducible rfl))
                case d58 => exact fun _ _ _ h => h
                try simp only [Act.put, List.setIfInBounds_toArray, List.set_cons_zero, List.set_cons_succ]
                refine wpAnyH_take (i := 25) (oi := ?o59) (v := ?v59) ?a59 (by kernel_rfl) ?b59 ?c59 ?d59 (Or.inl ⟨?w59, ?y59⟩) (by assumption) ?r59
                case a59 => (simp only [List.getElem?_toArray, List.getElem?_cons_succ, List.getElem?_cons_zero]; rfl)
                case b59 => kernel_rfl
                case c59 => kernel_rfl
                case w59 => rfl
                case y59 => (intro w hSw; (try dsimp only at hSw); first | (go_simp; done) | (go_simp; with_reducible rfl))
                case d59 => exact fun _ _ _ h => h
                try simp only [Act.put, List.setIfInBounds_toArray, List.set_cons_zero, List.set_cons_succ]
                refine wpAnyH_take (i := 26) (oi := ?o60) (v := ?v60) ?a60 (by kernel_rfl) ?b60 ?c60 ?d60 (Or.inl ⟨?w60, ?y60⟩) (by assumption) ?r60
                case a60 => (simp only [List.getElem?_toArray, List.getElem?_cons_succ, List.getElem?_cons_zero]; rfl)
                case b60 => kernel_rfl
                case c60 => kernel_rfl
                case w60 => rfl
                case y60 => (intro w hSw; (try dsimp only at hSw); first | (go_simp; done) | (go_simp; with_reducible rfl))
                case d60 => exact fun _ _ _ h => h
                try simp only [Act.put, List.setIfInBounds_toArray, List.set_cons_zero, List.set_cons_succ]
                refine wpAnyH_take (i := 27) (oi := ?o61) (v := ?v61) ?a61 (by kernel_rfl) ?b61 ?c61 ?d61 (Or.inl ⟨?w61, ?y61⟩) (by assumption) ?r61
                case a61 => (simp only [List.getElem?_toArray, List.getElem?_cons_succ, List.getElem?_cons_zero]; rfl)
                case b61 => kernel_rfl
                case c61 => kernel_rfl
                case w61 => rfl
                case y61 => (intro w hSw; (try dsimp only at hSw); first | (go_simp; done) | (go_simp; with_reducible rfl))
                case d61 => exact fun _ _ _ h => h
                try simp only [Act.put, List.setIfInBounds_toArray, List.set_cons_zero, List.set_cons_succ]
                refine wpAnyH_take (i := 28) (oi := ?o62) (v := ?v62) ?a62 (by kernel_rfl) ?b62 ?c62 ?d62 (Or.inl ⟨?w62, ?y62⟩) (by assumption) ?r62
                case a62 => (simp only [List.getElem?_toArray, List.getElem?_cons_succ, List.getElem?_cons_zero]; rfl)
                case b62 => kernel_rfl
                case c62 => kernel_rfl
                case w62 => rfl
                case y62 => (intro w hSw; (try dsimp only at hSw); first | (go_simp; done) | (go_simp; with_reducible rfl))
                case d62 => exact fun _ _ _ h => h
                try simp only [Act.put, List.setIfInBounds_toArray, List.set_cons_zero, List.set_cons_succ]
                refine wpAnyH_take (i := 29) (oi := ?o63) (v := ?v63) ?a63 (by kernel_rfl) ?b63 ?c63 ?d63 (Or.inl ⟨?w63, ?y63⟩) (by assumption) ?r63
                case a63 => (simp only [List.getElem?_toArray, List.getElem?_cons_succ, List.getElem?_cons_zero]; rfl)
                case b63 => kernel_rfl
                case c63 => kernel_rfl
                case w63 => rfl
                case y63 => (intro w hSw; (try dsimp only at hSw); first | (go_simp; done) | (go_simp; with_reducible rfl))
                case d63 => exact fun _ _ _ h => h
                try simp only [Act.put, List.setIfInBounds_toArray, List.set_cons_zero, List.set_cons_succ]
                refine wpAnyH_take (i := 30) (oi := ?o64) (v := ?v64) ?a64 (by kernel_rfl) ?b64 ?c64 ?d64 (Or.inl ⟨?w64, ?y64⟩) (by assumption) ?r64
                case a64 => (simp only [List.getElem?_toArray, List.getElem?_cons_succ, List.getElem?_cons_zero]; rfl)
                case b64 => kernel_rfl
                case c64 => kernel_rfl
                case w64 => rfl
                case y64 => (intro w hSw; (try dsimp only at hSw); first | (go_simp; done) | (go_simp; with_reducible rfl))
                case d64 => exact fun _ _ _ h => h
                try simp only [Act.put, List.setIfInBounds_toArray, List.set_cons_zero, List.set_cons_succ]
                refine wpAnyH_take (i := 31) (oi := ?o65) (v := ?v65) ?a65 (by kernel_rfl) ?b65 ?c65 ?d65 (Or.inl ⟨?w65, ?y65⟩) (by assumption) ?r65
                case a65 => (simp only [List.getElem?_toArray, List.getElem?_cons_succ, List.getElem?_cons_zero]; rfl)
                case b65 => kernel_rfl
                case c65 => kernel_rfl
                case w65 => rfl
                case y65 => (intro w hSw; (try dsimp only at hSw); first | (go_simp; done) | (go_simp; with_reducible rfl))
                case d65 => exact fun _ _ _ h => h
                try simp only [Act.put, List.setIfInBounds_toArray, List.set_cons_zero, List.set_cons_succ]
                refine wpAnyH_take (i := 32) (oi := ?o66) (v := ?v66) ?a66 (by kernel_rfl) ?b66 ?c66 ?d66 (Or.inl ⟨?w66, ?y66⟩) (by assumption) ?r66
                case a66 => (simp only [List.getElem?_toArray, List.getElem?_cons_succ, List.getElem?_cons_zero]; rfl)
                case b66 => kernel_rfl
                case c66 => kernel_rfl
                case w66 => rfl
                case y66 => (intro w hSw; (try dsimp only at hSw); first | (go_simp; done) | (go_simp; with_reducible rfl))
                case d66 => exact fun _ _ _ h => h
                try simp only [Act.put, List.setIfInBounds_toArray, List.set_cons_zero, List.set_cons_succ]
                refine wpAnyH_take (i := 33) (oi := ?o67) (v := ?v67) ?a67 (by kernel_rfl) ?b67 ?c67 ?d67 (Or.inl ⟨?w67, ?y67⟩) (by assumption) ?r67
                case a67 => (simp only [List.getElem?_toArray, List.getElem?_cons_succ, List.getElem?_cons_zero]; rfl)
                case b67 => kernel_rfl
                case c67 => kernel_rfl
                case w67 => rfl
                case y67 => (intro w hSw; (try dsimp only at hSw); first | (go_simp; done) | (go_simp; with_reducible rfl))
                case d67 => exact fun _ _ _ h => h
                try simp only [Act.put, List.setIfInBounds_toArray, List.set_cons_zero, List.set_cons_succ]
                refine wpAnyH_take (i := 34) (oi := ?o68) (v := ?v68) ?a68 (by kernel_rfl) ?b68 ?c68 ?d68 (Or.inl ⟨?w68, ?y68⟩) (by assumption) ?r68
                case a68 => (simp only [List.getElem?_toArray, List.getElem?_cons_succ, List.getElem?_cons_zero]; rfl)
                case b68 => kernel_rfl
                case c68 => kernel_rfl
                case w68 => rfl
                case y68 => (intro w hSw; (try dsimp only at hSw); first | (go_simp; done) | (go_simp; with_reducible rfl))
                case d68 => exact fun _ _ _ h => h
                try simp only [Act.put, List.setIfInBounds_toArray, List.set_cons_zero, List.set_cons_succ]
                refine wpAnyH_done (by kernel_rfl) ?_ _
                go_wp2_with fail
                go_roundg (q.2.length - (j' + 1 + 1))
                case measure => have := HGI.out; omega
                case rel => exact ⟨j' + 1 + 1, _, rfl, rfl, by go_num, by omega, HKI.out.trans0 hkb⟩
              · exact AllReadyH.nil
          · have hd : ((bs y).toList == (bs x).toList) = false := by rw [ByteArray.toList_eq, ByteArray.toList_eq, bs_data, bs_data]; exact beq_eq_false_iff_ne.2 hyx
            have hjn : (j : Int) < (q.2.length : Int) := by omega
            by_cases hj0 : j = 0
            · subst hj0
              go_region
              all_goals
                go_wp2_with fail
                go_roundg (q.2.length - 1)
                case measure => have := HGI.out; omega
                case rel => exact ⟨1, _, rfl, rfl, by go_num, by omega, HKI.out.drew⟩
            · obtain ⟨j', rfl⟩ : ∃ j', j = j' + 1 := ⟨j - 1, by omega⟩
              obtain ⟨y', hy'⟩ : ∃ y', (ksOf q.2)[j']? = some y' := ⟨_, List.getElem?_eq_getElem (by rw [show (ksOf q.2).length = q.2.length from List.length_mergeSort _]; omega)⟩
              obtain ⟨gl', hgl', hcl'⟩ := (HLS.out.keep HKI.out (by simp)).cell hy'
              cases hgl'
              have hrise : y' < y := ks_rise HOK.out.nodup hy' HY.out
              have hbl : Op.bytesLess (bs y').toList (bs y).toList = true := bytes_rise hrise
              have hjn' : (j' : Int) < (q.2.length : Int) := by omega
              clear hrise hy' hj0
              go_region
              all_goals
                go_wp2_with fail
                go_roundg (q.2.length - (j' + 1 + 1))
                case measure => have := HGI.out; omega
                case rel => exact ⟨j' + 1 + 1, _, rfl, rfl, by go_num, by omega, HKI.out.drew⟩
        · have hdj : decide ((j : Int) < (q.2.length : Int)) = false := by simpa using hjl
          go_wp2_with fail
          refine (HIN.out wi HKI.out x).mono ?_
          rintro e w7 ⟨rfl, rfl⟩
          have hin : decide (x ∈ ksOf q.2) = true := by
            simp only [decide_eq_true_eq]
            exact (List.mergeSort_perm q.2 _).mem_iff.2 (List.mem_of_getElem? HX9.out)
          rw [hin]
          go_wp2_with fail
          go_roundg (q.2.length - (k + 1))
          case measure => have := HG2.out; omega
          case rel => exact ⟨k + 1, _, rfl, rfl, by go_num, by omega, HKI.out⟩
    · have hdl : decide ((k : Int) < (q.2.length : Int)) = false := by simpa using hlt
      go_wp2_with fail
      go_ret
      exact ⟨rfl, K4.out.trans0 HKX.out⟩
end Go.Proofs.YtpbplpnifjbkoaaDoor

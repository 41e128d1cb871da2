/-
  The document's Text of 'let' and 'let rec'.
-/
import Derived.Test.YtpbplpnifjbkoaaDoorRtexta
import Derived.Deep.LoopGhost
namespace Go.Proofs.YtpbplpnifjbkoaaDoor
open Go.RowKit

def bItem (p : Bytes × Exp) : Bytes := p.1 ++ [32, 61, 32] ++ textE p.2
def bndR : List (Bytes × Exp) → Bytes
  | [] => []
  | [p] => bItem p
  | p :: q :: r => bItem p ++ [32, 97, 110, 100, 32] ++ bndR (q :: r)
theorem bndR_snoc (l : List (Bytes × Exp)) (p : Bytes × Exp) : bndR (l ++ [p]) = if l = [] then bItem p else bndR l ++ [32, 97, 110, 100, 32] ++ bItem p := by
  induction l with
  | nil => rfl
  | cons a r ih =>
    cases r with
    | nil => rfl
    | cons b r => simp only [List.cons_append, bndR] at ih ⊢; rw [ih]; simp
theorem bndR_take (l : List (Bytes × Exp)) (k : Nat) : (bndR (l.take k)).length ≤ (bndR l).length := by
  induction l generalizing k with
  | nil => simp [bndR]
  | cons a r ih =>
    cases k with
    | zero => simp [bndR]
    | succ k =>
      cases r with
      | nil => simp
      | cons b r =>
        cases k with
        | zero => simp [bndR]
        | succ k => have := ih (k + 1); simp only [List.take_succ_cons, bndR, List.length_append] at this ⊢; omega
def pairsG : Exp → List (Bytes × Exp)
  | .bnd x a g => (x, a) :: pairsG g
  | _ => []
theorem rtext_grp (g : Exp) (hw : wfE true g = true) (hb : isBnd g = true) : textE g = bndR (pairsG g) ++ [32, 105, 110, 32] ++ textE (gFor g) := by
  induction g with
  | bnd x a g iha ihg =>
    simp only [wfE, Bool.and_eq_true] at hw
    cases g with
    | bnd y b g =>
      have := ihg hw.2 rfl
      simp only [textE, pairsG, bndR, bItem, isFin, gFor] at this ⊢
      rw [this]; simp
    | fin e => simp [textE, pairsG, bndR, bItem, isFin, gFor]
    | _ => simp [wfE] at hw
  | _ => simp [isBnd] at hb
theorem group_kids (g : Exp) (hw : wfE true g = true) : rkids g = (pairsG g).map (·.2) ++ [gFor g] := by
  induction g with
  | bnd x a g iha ihg => simp only [wfE, Bool.and_eq_true] at hw; simp [rkids, pairsG, gFor, ihg hw.2]
  | fin e => rfl
  | _ => simp [wfE] at hw
theorem group_names {w : World} {lo hi : Nat} (g : Exp) : ∀ ns vs v, wfE true g = true → RExpAt w lo hi g ns vs v → ns = (pairsG g).map (·.1) := by
  induction g with
  | bnd x a g iha ihg =>
    intro ns vs v hw h
    obtain ⟨ns', va, vs', rfl, rfl, h3, h4⟩ := h
    simp only [wfE, Bool.and_eq_true] at hw
    rw [ihg _ _ _ hw.2 h4]; rfl
  | fin e ih => intro ns vs v hw h; exact h.1
  | _ => intro ns vs v hw h; simp [wfE] at hw

def preB (r : Bool) : Bytes := if r then [108, 101, 116, 32, 114, 101, 99, 32] else [108, 101, 116, 32]
def opB (r : Bool) : Bytes := if r then oRec else oLet

set_option maxRecDepth 100000 in
set_option maxHeartbeats 4000000 in
theorem rtext_bndL (w0 : World) (lo hi : Nat) (es : List (Bytes × Exp)) (bd : Exp) (v : Value) (vs : List Value) (q : Nat) (hnode : Node w0 lo hi (opB false) (es.map (·.1)) vs q v) (hk : RKidsAt w0 lo hi (es.map (·.2) ++ [bd]) vs)
    (hwf : ∀ e ∈ es.map (·.2) ++ [bd], wfE false e = true) (ih : ∀ e ∈ es.map (·.2) ++ [bd], ∀ v, RExpAt w0 lo hi e [] [] v → TextIH w0 e v) (hl : (preB false ++ bndR es ++ [32, 105, 110, 32] ++ textE bd).length ≤ 200000) (hes : es.length ≤ 65536) :
    ∀ w, Keeps [] w0 w → Calls Tryd.prog 11 #[v] w fun e w' => e = .returned (.string (bs (preB false ++ bndR es ++ [32, 105, 110, 32] ++ textE bd))) ∧ Keeps [] w w' := by
  intro w hkw
  obtain ⟨b, sn, sl, hb1, hb2, rfl, hb, hrn, hrl⟩ := hnode
  obtain ⟨adn, capn, adl, capl, c0, c1, c2, hn, hv⟩ := Node.facts (show Node w0 lo hi (opB false) (es.map (·.1)) vs q _ from ⟨b, sn, sl, hb1, hb2, rfl, hb, hrn, hrl⟩) (Keeps.refl [] w0)
  have hvl := hk.len
  simp only [List.length_append, List.length_map, List.length_cons, List.length_nil, Nat.zero_add] at hvl
  rw [hvl] at c2
  simp only [List.length_map] at c1
  have HN := Lib.hid hn
  have HV := Lib.hid hv
  have HKI := Lib.hid hk
  have HWF := Lib.hid hwf
  have HIH := Lib.hid ih
  have HL := Lib.hid hl
  have HKW := Lib.hid hkw
  have C1 := Lib.hid c1
  have C2 := Lib.hid c2
  have d0 : w.cell? ⟨b, 0, none⟩ = some (.string (bs (opB false))) := hkw.cellSome c0 (by simp)
  have d1 : w.cell? ⟨b, 1, none⟩ = some (.slice adn es.length capn) := hkw.cellSome c1 (by simp)
  clear hn hv hk hwf ih hl hb hrn hrl hvl c0 c1 c2 hkw
  have d0' : w.cell? ⟨b, 0, none⟩ = some (.string ⟨#[108, 101, 116]⟩) := d0
  clear d0
  go_enter Tryd.func11, Tryd.ntmps11
  go_wp2_with fail
  go_loopg [7, 169] es.length (fun gg v7 v169 wx => ∃ k : Nat, gg = es.length - k ∧ v169 = .int .i64 k ∧ k ≤ es.length ∧ v7 = .string (bs (preB false ++ bndR (es.take k))) ∧ Keeps [] w wx)
  case atStart => exact ⟨0, rfl, rfl, Nat.zero_le _, congrArg Value.string (by apply ba_ext; simp [bs_data, preB, bndR]), Keeps.refl _ _⟩
  case round =>
    obtain ⟨k, hgk, rfl, hk, rfl, hkp⟩ := hrel
    clear d0' d1
    have HG := Lib.hid hgk
    have KW := Lib.hid hkp
    have K0 := Lib.hid (HKW.out.trans0 hkp)
    clear hgk hkp
    have hl := HL.out
    simp only [List.length_append, List.length_cons, List.length_nil] at hl
    by_cases hlt : k < es.length
    · have hdl : decide ((k : Int) < (es.length : Int)) = true := by simpa using hlt
      have hkb : k < 65536 := by omega
      obtain ⟨gn, rfl, n0⟩ := HN.out k es[k].1 (by simp [hlt])
      have hmem : es[k].2 ∈ es.map (·.2) ++ [bd] := List.mem_append_left _ (List.mem_map.2 ⟨es[k], List.getElem_mem hlt, rfl⟩)
      obtain ⟨u, hu, hku⟩ := HKI.out.get k (by simp; omega)
      have hel : (es.map (·.2) ++ [bd])[k]'(by simp; omega) = es[k].2 := by rw [List.getElem_append_left (by simpa using hlt)]; simp
      rw [hel] at hku
      obtain ⟨gl, rfl, l0⟩ := HV.out k u hu
      obtain ⟨ub, rfl⟩ := hku.ptr (HWF.out _ hmem)
      have HT := Lib.hid (HIH.out _ hmem _ hku)
      have N0 := Lib.hid n0
      have L0 := Lib.hid l0
      have dn : wr.cell? ⟨gn, k, none⟩ = some (.string (bs es[k].1)) := K0.out.cellSome n0 (by simp)
      have htk : es.take (k + 1) = es.take k ++ [es[k]] := List.take_succ_eq_append_getElem hlt
      have hbt := bndR_take es (k + 1)
      rw [htk, bndR_snoc] at hbt
      have HTK := Lib.hid htk
      clear n0 l0 hmem hku hel hu htk
      obtain ⟨x, hx⟩ : ∃ x, x = es[k].1 := ⟨_, rfl⟩
      obtain ⟨a, ha⟩ : ∃ a, a = es[k].2 := ⟨_, rfl⟩
      obtain ⟨T, hT⟩ : ∃ T, T = bndR (es.take k) := ⟨_, rfl⟩
      rw [← hx] at dn
      rw [← ha] at HT
      rw [← hT] at hbt ⊢
      have hit : (bItem es[k]).length = x.length + 3 + (textE a).length := by rw [hx, ha]; simp [bItem]; omega
      have HX := Lib.hid hx
      have HA := Lib.hid ha
      have HTT := Lib.hid hT
      clear hx ha hT
      have d2 : wr.cell? ⟨b, 2, none⟩ = some (.slice (some ⟨gl, 0, none⟩) (es.length + 1) capl) := K0.out.cellSome C2.out (by simp)
      have dl : wr.cell? ⟨gl, k, none⟩ = some (.pointer (some ⟨ub, 0, none⟩)) := K0.out.cellSome L0.out (by simp)
      have hpre : (preB false).length ≤ 8 := by decide
      have hll : (k : Int) < ((es.length + 1 : Nat) : Int) := by omega
      by_cases hk0 : k = 0
      · have hkz : decide ((k : Int) > 0) = false := by simp; omega
        rw [if_pos (by rw [hk0]; simp)] at hbt
        have z1 : ¬ 9223372036854775807 < (bs x).size + 3 := by simp only [bs_size]; omega
        have z2 : ¬ 9223372036854775807 < (bs x).size + 3 + (bs (textE a)).size := by simp only [bs_size]; omega
        have hTl : T.length = 0 := by rw [HTT.out, hk0]; simp [bndR]
        have z3 : ¬ 9223372036854775807 < (bs (preB false ++ T)).size + ((bs x).size + 3 + (bs (textE a)).size) := by simp only [bs_size, List.length_append]; omega
        clear hbt hit hTl hl hpre hkz
        subst hk0
        go_wp2_with fail
        refine (HT.out _ K0.out).mono ?_
        rintro e w2 ⟨rfl, hkp⟩
        have KW2 := Lib.hid (KW.out.trans0 hkp)
        clear hkp dn d2 dl
        go_wp2_with fail
        go_roundg (es.length - (0 + 1))
        case measure => have := HG.out; omega
        case rel =>
          refine ⟨0 + 1, rfl, by go_num, by omega, congrArg Value.string ?_, KW2.out⟩
          rw [HTK.out, bndR_snoc, if_pos (by simp)]
          apply ba_ext
          have hT0 : T = [] := by rw [HTT.out]; simp [bndR]
          simp [ByteArray.data_append, Array.toList_append, bs_data, bItem, ← HX.out, ← HA.out, hT0]
      · have hkz : decide ((k : Int) > 0) = true := by simp; omega
        have hkz2 : decide (0 < k) = true := by simp; omega
        have hkz3 : 0 < k := by omega
        have hne : es.take k ≠ [] := by
          intro e
          rcases List.take_eq_nil_iff.1 e with h | h
          · omega
          · rw [h] at hlt; simp at hlt
        rw [if_neg hne] at hbt
        simp only [List.length_append, List.length_cons, List.length_nil] at hbt
        have z1 : ¬ 9223372036854775807 < (bs x).size + 3 := by simp only [bs_size]; omega
        have z2 : ¬ 9223372036854775807 < (bs x).size + 3 + (bs (textE a)).size := by simp only [bs_size]; omega
        have z4 : ¬ 9223372036854775807 < (bs (preB false ++ T)).size + 5 := by simp only [bs_size, List.length_append]; omega
        have z3 : ¬ 9223372036854775807 < (bs (preB false ++ T)).size + 5 + ((bs x).size + 3 + (bs (textE a)).size) := by simp only [bs_size, List.length_append]; omega
        have HNE := Lib.hid hne
        clear hbt hit hk0 hl hne hpre
        go_wp2_with fail
        refine (HT.out _ K0.out).mono ?_
        rintro e w2 ⟨rfl, hkp⟩
        have KW2 := Lib.hid (KW.out.trans0 hkp)
        clear hkp dn d2 dl
        go_wp2_with fail
        go_roundg (es.length - (k + 1))
        case measure => have := HG.out; omega
        case rel =>
          refine ⟨k + 1, rfl, by go_num, by omega, congrArg Value.string ?_, KW2.out⟩
          rw [HTK.out, bndR_snoc, if_neg HNE.out]
          apply ba_ext
          simp [ByteArray.data_append, Array.toList_append, bs_data, bItem, ← HX.out, ← HA.out, ← HTT.out]
    · obtain rfl : k = es.length := by omega
      have hdl : decide ((es.length : Int) < (es.length : Int)) = false := by simp
      have hmem : bd ∈ es.map (·.2) ++ [bd] := List.mem_append_right _ (List.mem_singleton.2 rfl)
      obtain ⟨u, hu, hku⟩ := HKI.out.get es.length (by simp)
      have hel : (es.map (·.2) ++ [bd])[es.length]'(by simp) = bd := by rw [List.getElem_append_right (by simp)]; simp
      rw [hel] at hku
      obtain ⟨gl, rfl, l0⟩ := HV.out es.length u hu
      obtain ⟨ub, rfl⟩ := hku.ptr (HWF.out _ hmem)
      have HT := Lib.hid (HIH.out _ hmem _ hku)
      have d1 : wr.cell? ⟨b, 1, none⟩ = some (.slice adn es.length capn) := K0.out.cellSome C1.out (by simp)
      have d2 : wr.cell? ⟨b, 2, none⟩ = some (.slice (some ⟨gl, 0, none⟩) (es.length + 1) capl) := K0.out.cellSome C2.out (by simp)
      have dl : wr.cell? ⟨gl, es.length, none⟩ = some (.pointer (some ⟨ub, 0, none⟩)) := K0.out.cellSome l0 (by simp)
      rw [List.take_length]
      obtain ⟨T, hT⟩ : ∃ T, T = bndR es := ⟨_, rfl⟩
      rw [← hT] at hl ⊢
      have z1 : ¬ 9223372036854775807 < (bs (preB false ++ T)).size + 4 := by simp only [bs_size, List.length_append]; omega
      have z2 : ¬ 9223372036854775807 < (bs (preB false ++ T)).size + 4 + (bs (textE bd)).size := by simp only [bs_size, List.length_append]; omega
      have hTT := Lib.hid hT
      clear hmem hku hel hu l0 hlt hl hT
      obtain ⟨N, hN⟩ : ∃ N, es.length + 1 = N := ⟨_, rfl⟩
      rw [hN] at d2
      have ix0 : (0 : Int) ≤ (es.length : Int) := by omega
      have ix1 : (es.length : Int) < (N : Int) := by omega
      have ix2 : es.length < N := by omega
      clear hN
      go_wp2_with fail
      go_region_held3 (fun W => W.cell? ⟨b, 1, none⟩ = some (.slice adn es.length capn) ∧ W.cell? ⟨b, 2, none⟩ = some (.slice (some ⟨gl, 0, none⟩) N capl) ∧ W.cell? ⟨gl, es.length, none⟩ = some (.pointer (some ⟨ub, 0, none⟩)) ∧ Keeps [] wr W)
        (first | exact ⟨(Keeps.refl [] wr).drew.cellSome d1 (by simp), (Keeps.refl [] wr).drew.cellSome d2 (by simp), (Keeps.refl [] wr).drew.cellSome dl (by simp), (Keeps.refl [] wr).drew⟩ | exact ⟨hkb.cellSome d1 (by simp), hkb.cellSome d2 (by simp), hkb.cellSome dl (by simp), hkb⟩)
        (first | (go_at_call 11; refine (HT.out _ (K0.out.trans0 ?_)).mono ?_; (first | exact (Keeps.refl [] wr).drew | assumption); rintro e Wb ⟨rfl, hzb⟩; have hkb := Keeps.trans0 (show Keeps [] wr _ by first | exact (Keeps.refl [] wr).drew | assumption) hzb; clear hzb))
      all_goals
        go_wp2
        go_ret
        refine ⟨congrArg (fun b => Ending.returned (.string b)) ?_, KW.out.trans0 (by assumption)⟩
        apply ba_ext
        simp [ByteArray.data_append, Array.toList_append, bs_data, hTT.out]

set_option maxRecDepth 100000 in
set_option maxHeartbeats 4000000 in
theorem rtext_bndR (w0 : World) (lo hi : Nat) (es : List (Bytes × Exp)) (bd : Exp) (v : Value) (vs : List Value) (q : Nat) (hnode : Node w0 lo hi (opB true) (es.map (·.1)) vs q v) (hk : RKidsAt w0 lo hi (es.map (·.2) ++ [bd]) vs)
    (hwf : ∀ e ∈ es.map (·.2) ++ [bd], wfE false e = true) (ih : ∀ e ∈ es.map (·.2) ++ [bd], ∀ v, RExpAt w0 lo hi e [] [] v → TextIH w0 e v) (hl : (preB true ++ bndR es ++ [32, 105, 110, 32] ++ textE bd).length ≤ 200000) (hes : es.length ≤ 65536) :
    ∀ w, Keeps [] w0 w → Calls Tryd.prog 11 #[v] w fun e w' => e = .returned (.string (bs (preB true ++ bndR es ++ [32, 105, 110, 32] ++ textE bd))) ∧ Keeps [] w w' := by
  intro w hkw
  obtain ⟨b, sn, sl, hb1, hb2, rfl, hb, hrn, hrl⟩ := hnode
  obtain ⟨adn, capn, adl, capl, c0, c1, c2, hn, hv⟩ := Node.facts (show Node w0 lo hi (opB true) (es.map (·.1)) vs q _ from ⟨b, sn, sl, hb1, hb2, rfl, hb, hrn, hrl⟩) (Keeps.refl [] w0)
  have hvl := hk.len
  simp only [List.length_append, List.length_map, List.length_cons, List.length_nil, Nat.zero_add] at hvl
  rw [hvl] at c2
  simp only [List.length_map] at c1
  have HN := Lib.hid hn
  have HV := Lib.hid hv
  have HKI := Lib.hid hk
  have HWF := Lib.hid hwf
  have HIH := Lib.hid ih
  have HL := Lib.hid hl
  have HKW := Lib.hid hkw
  have C1 := Lib.hid c1
  have C2 := Lib.hid c2
  have d0 : w.cell? ⟨b, 0, none⟩ = some (.string (bs (opB true))) := hkw.cellSome c0 (by simp)
  have d1 : w.cell? ⟨b, 1, none⟩ = some (.slice adn es.length capn) := hkw.cellSome c1 (by simp)
  clear hn hv hk hwf ih hl hb hrn hrl hvl c0 c1 c2 hkw
  have d0' : w.cell? ⟨b, 0, none⟩ = some (.string ⟨#[114, 101, 99]⟩) := d0
  clear d0
  go_enter Tryd.func11, Tryd.ntmps11
  go_wp2_with fail
  go_loopg [7, 169] es.length (fun gg v7 v169 wx => ∃ k : Nat, gg = es.length - k ∧ v169 = .int .i64 k ∧ k ≤ es.length ∧ v7 = .string (bs (preB true ++ bndR (es.take k))) ∧ Keeps [] w wx)
  case atStart => exact ⟨0, rfl, rfl, Nat.zero_le _, congrArg Value.string (by apply ba_ext; simp [ByteArray.data_append, bs_data, preB, bndR]), Keeps.refl _ _⟩
  case round =>
    obtain ⟨k, hgk, rfl, hk, rfl, hkp⟩ := hrel
    clear d0' d1
    have HG := Lib.hid hgk
    have KW := Lib.hid hkp
    have K0 := Lib.hid (HKW.out.trans0 hkp)
    clear hgk hkp
    have hl := HL.out
    simp only [List.length_append, List.length_cons, List.length_nil] at hl
    by_cases hlt : k < es.length
    · have hdl : decide ((k : Int) < (es.length : Int)) = true := by simpa using hlt
      have hkb : k < 65536 := by omega
      obtain ⟨gn, rfl, n0⟩ := HN.out k es[k].1 (by simp [hlt])
      have hmem : es[k].2 ∈ es.map (·.2) ++ [bd] := List.mem_append_left _ (List.mem_map.2 ⟨es[k], List.getElem_mem hlt, rfl⟩)
      obtain ⟨u, hu, hku⟩ := HKI.out.get k (by simp; omega)
      have hel : (es.map (·.2) ++ [bd])[k]'(by simp; omega) = es[k].2 := by rw [List.getElem_append_left (by simpa using hlt)]; simp
      rw [hel] at hku
      obtain ⟨gl, rfl, l0⟩ := HV.out k u hu
      obtain ⟨ub, rfl⟩ := hku.ptr (HWF.out _ hmem)
      have HT := Lib.hid (HIH.out _ hmem _ hku)
      have N0 := Lib.hid n0
      have L0 := Lib.hid l0
      have dn : wr.cell? ⟨gn, k, none⟩ = some (.string (bs es[k].1)) := K0.out.cellSome n0 (by simp)
      have htk : es.take (k + 1) = es.take k ++ [es[k]] := List.take_succ_eq_append_getElem hlt
      have hbt := bndR_take es (k + 1)
      rw [htk, bndR_snoc] at hbt
      have HTK := Lib.hid htk
      clear n0 l0 hmem hku hel hu htk
      obtain ⟨x, hx⟩ : ∃ x, x = es[k].1 := ⟨_, rfl⟩
      obtain ⟨a, ha⟩ : ∃ a, a = es[k].2 := ⟨_, rfl⟩
      obtain ⟨T, hT⟩ : ∃ T, T = bndR (es.take k) := ⟨_, rfl⟩
      rw [← hx] at dn
      rw [← ha] at HT
      rw [← hT] at hbt ⊢
      have hit : (bItem es[k]).length = x.length + 3 + (textE a).length := by rw [hx, ha]; simp [bItem]; omega
      have HX := Lib.hid hx
      have HA := Lib.hid ha
      have HTT := Lib.hid hT
      clear hx ha hT
      have d2 : wr.cell? ⟨b, 2, none⟩ = some (.slice (some ⟨gl, 0, none⟩) (es.length + 1) capl) := K0.out.cellSome C2.out (by simp)
      have dl : wr.cell? ⟨gl, k, none⟩ = some (.pointer (some ⟨ub, 0, none⟩)) := K0.out.cellSome L0.out (by simp)
      have hpre : (preB true).length ≤ 8 := by decide
      have hll : (k : Int) < ((es.length + 1 : Nat) : Int) := by omega
      by_cases hk0 : k = 0
      · have hkz : decide ((k : Int) > 0) = false := by simp; omega
        rw [if_pos (by rw [hk0]; simp)] at hbt
        have z1 : ¬ 9223372036854775807 < (bs x).size + 3 := by simp only [bs_size]; omega
        have z2 : ¬ 9223372036854775807 < (bs x).size + 3 + (bs (textE a)).size := by simp only [bs_size]; omega
        have hTl : T.length = 0 := by rw [HTT.out, hk0]; simp [bndR]
        have z3 : ¬ 9223372036854775807 < (bs (preB true ++ T)).size + ((bs x).size + 3 + (bs (textE a)).size) := by simp only [bs_size, List.length_append]; omega
        clear hbt hit hTl hl hpre hkz
        subst hk0
        go_wp2_with fail
        refine (HT.out _ K0.out).mono ?_
        rintro e w2 ⟨rfl, hkp⟩
        have KW2 := Lib.hid (KW.out.trans0 hkp)
        clear hkp dn d2 dl
        go_wp2_with fail
        go_roundg (es.length - (0 + 1))
        case measure => have := HG.out; omega
        case rel =>
          refine ⟨0 + 1, rfl, by go_num, by omega, congrArg Value.string ?_, KW2.out⟩
          rw [HTK.out, bndR_snoc, if_pos (by simp)]
          apply ba_ext
          have hT0 : T = [] := by rw [HTT.out]; simp [bndR]
          simp [ByteArray.data_append, Array.toList_append, bs_data, bItem, ← HX.out, ← HA.out, hT0]
      · have hkz : decide ((k : Int) > 0) = true := by simp; omega
        have hkz2 : decide (0 < k) = true := by simp; omega
        have hkz3 : 0 < k := by omega
        have hne : es.take k ≠ [] := by
          intro e
          rcases List.take_eq_nil_iff.1 e with h | h
          · omega
          · rw [h] at hlt; simp at hlt
        rw [if_neg hne] at hbt
        simp only [List.length_append, List.length_cons, List.length_nil] at hbt
        have z1 : ¬ 9223372036854775807 < (bs x).size + 3 := by simp only [bs_size]; omega
        have z2 : ¬ 9223372036854775807 < (bs x).size + 3 + (bs (textE a)).size := by simp only [bs_size]; omega
        have z4 : ¬ 9223372036854775807 < (bs (preB true ++ T)).size + 5 := by simp only [bs_size, List.length_append]; omega
        have z3 : ¬ 9223372036854775807 < (bs (preB true ++ T)).size + 5 + ((bs x).size + 3 + (bs (textE a)).size) := by simp only [bs_size, List.length_append]; omega
        have HNE := Lib.hid hne
        clear hbt hit hk0 hl hne hpre
        go_wp2_with fail
        refine (HT.out _ K0.out).mono ?_
        rintro e w2 ⟨rfl, hkp⟩
        have KW2 := Lib.hid (KW.out.trans0 hkp)
        clear hkp dn d2 dl
        go_wp2_with fail
        go_roundg (es.length - (k + 1))
        case measure => have := HG.out; omega
        case rel =>
          refine ⟨k + 1, rfl, by go_num, by omega, congrArg Value.string ?_, KW2.out⟩
          rw [HTK.out, bndR_snoc, if_neg HNE.out]
          apply ba_ext
          simp [ByteArray.data_append, Array.toList_append, bs_data, bItem, ← HX.out, ← HA.out, ← HTT.out]
    · obtain rfl : k = es.length := by omega
      have hdl : decide ((es.length : Int) < (es.length : Int)) = false := by simp
      have hmem : bd ∈ es.map (·.2) ++ [bd] := List.mem_append_right _ (List.mem_singleton.2 rfl)
      obtain ⟨u, hu, hku⟩ := HKI.out.get es.length (by simp)
      have hel : (es.map (·.2) ++ [bd])[es.length]'(by simp) = bd := by rw [List.getElem_append_right (by simp)]; simp
      rw [hel] at hku
      obtain ⟨gl, rfl, l0⟩ := HV.out es.length u hu
      obtain ⟨ub, rfl⟩ := hku.ptr (HWF.out _ hmem)
      have HT := Lib.hid (HIH.out _ hmem _ hku)
      have d1 : wr.cell? ⟨b, 1, none⟩ = some (.slice adn es.length capn) := K0.out.cellSome C1.out (by simp)
      have d2 : wr.cell? ⟨b, 2, none⟩ = some (.slice (some ⟨gl, 0, none⟩) (es.length + 1) capl) := K0.out.cellSome C2.out (by simp)
      have dl : wr.cell? ⟨gl, es.length, none⟩ = some (.pointer (some ⟨ub, 0, none⟩)) := K0.out.cellSome l0 (by simp)
      rw [List.take_length]
      obtain ⟨T, hT⟩ : ∃ T, T = bndR es := ⟨_, rfl⟩
      rw [← hT] at hl ⊢
      have z1 : ¬ 9223372036854775807 < (bs (preB true ++ T)).size + 4 := by simp only [bs_size, List.length_append]; omega
      have z2 : ¬ 9223372036854775807 < (bs (preB true ++ T)).size + 4 + (bs (textE bd)).size := by simp only [bs_size, List.length_append]; omega
      have hTT := Lib.hid hT
      clear hmem hku hel hu l0 hlt hl hT
      obtain ⟨N, hN⟩ : ∃ N, es.length + 1 = N := ⟨_, rfl⟩
      rw [hN] at d2
      have ix0 : (0 : Int) ≤ (es.length : Int) := by omega
      have ix1 : (es.length : Int) < (N : Int) := by omega
      have ix2 : es.length < N := by omega
      clear hN
      go_wp2_with fail
      go_region_held3 (fun W => W.cell? ⟨b, 1, none⟩ = some (.slice adn es.length capn) ∧ W.cell? ⟨b, 2, none⟩ = some (.slice (some ⟨gl, 0, none⟩) N capl) ∧ W.cell? ⟨gl, es.length, none⟩ = some (.pointer (some ⟨ub, 0, none⟩)) ∧ Keeps [] wr W)
        (first | exact ⟨(Keeps.refl [] wr).drew.cellSome d1 (by simp), (Keeps.refl [] wr).drew.cellSome d2 (by simp), (Keeps.refl [] wr).drew.cellSome dl (by simp), (Keeps.refl [] wr).drew⟩ | exact ⟨hkb.cellSome d1 (by simp), hkb.cellSome d2 (by simp), hkb.cellSome dl (by simp), hkb⟩)
        (first | (go_at_call 11; refine (HT.out _ (K0.out.trans0 ?_)).mono ?_; (first | exact (Keeps.refl [] wr).drew | assumption); rintro e Wb ⟨rfl, hzb⟩; have hkb := Keeps.trans0 (show Keeps [] wr _ by first | exact (Keeps.refl [] wr).drew | assumption) hzb; clear hzb))
      all_goals
        go_wp2
        go_ret
        refine ⟨congrArg (fun b => Ending.returned (.string b)) ?_, KW.out.trans0 (by assumption)⟩
        apply ba_ext
        simp [ByteArray.data_append, Array.toList_append, bs_data, hTT.out]

end Go.Proofs.YtpbplpnifjbkoaaDoor

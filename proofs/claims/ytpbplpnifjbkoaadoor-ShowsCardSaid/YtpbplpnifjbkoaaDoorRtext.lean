/-
  The document's Text, by contract.
-/
import Derived.Test.YtpbplpnifjbkoaaDoorRdeep
import Derived.Test.YtpbplpnifjbkoaaDoorRref
import Derived.Deep.RegionHeld3
import Derived.Deep.CutBlock
import Derived.Deep.DeepCutAuto
namespace Go.Proofs.YtpbplpnifjbkoaaDoor
open Go.RowKit

abbrev rp (b : Nat) : Value := .pointer (some ⟨b, 0, none⟩)
def opOf : Exp → Bytes
  | .name _ _ => oName
  | .num _ _ => oNum
  | .lam _ _ _ => oFun
  | .app _ _ _ => oApp
  | .pair _ _ _ => oPair
  | .letin _ _ _ _ => oLet
  | .recr _ _ => oRec
  | .cond _ _ _ _ => oIf
  | .bnd _ _ _ => []
  | .fin _ => []
theorem node_op {w : World} {lo hi : Nat} {x : Exp} {v : Value} (hw : wfE false x = true) (h : RExpAt w lo hi x [] [] v) : ∃ ns vs q, Node w lo hi (opOf x) ns vs q v := by
  cases x with
  | name p s => exact ⟨_, _, _, h.2.2⟩
  | num p s => exact ⟨_, _, _, h.2.2⟩
  | lam p x e => obtain ⟨_, _, va, h, h1⟩ := h; exact ⟨_, _, _, h⟩
  | app p f a => obtain ⟨_, _, vf, va, _, h, h1, h2⟩ := h; exact ⟨_, _, _, h⟩
  | pair p f a => obtain ⟨_, _, vf, va, h, h1, h2⟩ := h; exact ⟨_, _, _, h⟩
  | letin p x f a => obtain ⟨_, _, vf, va, h, h1, h2⟩ := h; exact ⟨_, _, _, h⟩
  | cond p c f a => obtain ⟨_, _, vc, vf, va, h, h1, h2, h3⟩ := h; exact ⟨_, _, _, h⟩
  | recr p g => obtain ⟨_, _, ns', vs', vf, h, h1⟩ := h; exact ⟨_, _, _, h⟩
  | bnd x a g => simp [wfE] at hw
  | fin e => simp [wfE] at hw

/-- Text of a value that is that expression, in whatever later world. -/
def TextIH (w0 : World) (x : Exp) (v : Value) : Prop := ∀ w, Keeps [] w0 w → Calls Tryd.prog 11 #[v] w fun e w' => e = .returned (.string (bs (textE x))) ∧ Keeps [] w w'
theorem keepsN {w0 w : World} (h : Keeps [] w0 w) (n : Nat) : Keeps [] w0 (w.drewN n) := h.drewN n
theorem Node.facts {w0 w : World} {lo hi : Nat} {op : Bytes} {ns : List Bytes} {vs : List Value} {q : Nat} {b : Nat} (h : Node w0 lo hi op ns vs q (.pointer (some ⟨b, 0, none⟩))) (hk : Keeps [] w0 w) :
    ∃ adn capn adl capl, w.cell? ⟨b, 0, none⟩ = some (.string (bs op)) ∧ w.cell? ⟨b, 1, none⟩ = some (.slice adn ns.length capn) ∧ w.cell? ⟨b, 2, none⟩ = some (.slice adl vs.length capl) ∧
      (∀ j x, ns[j]? = some x → ∃ g, adn = some ⟨g, 0, none⟩ ∧ w.cell? ⟨g, j, none⟩ = some (.string (bs x))) ∧ (∀ j v, vs[j]? = some v → ∃ g, adl = some ⟨g, 0, none⟩ ∧ w.cell? ⟨g, j, none⟩ = some v) := by
  obtain ⟨b', sn, sl, hb1, hb2, e, hb, hrn, hrl⟩ := h
  cases e
  obtain ⟨adn, capn, rfl, hn⟩ := hrn.shape
  obtain ⟨adl, capl, rfl, hl⟩ := hrl.shape
  refine ⟨adn, capn, adl, capl, hk.cellSome (cell_of_block hb 0) (by simp), ?_, hk.cellSome (cell_of_block hb 2) (by simp), fun j x hx => ?_, fun j v hv => ?_⟩
  · have := hk.cellSome (cell_of_block hb 1) (by simp); simpa using this
  · have hlt : j < ns.length := by
      rcases Nat.lt_or_ge j ns.length with h | h
      · exact h
      · rw [List.getElem?_eq_none h] at hx; cases hx
    obtain ⟨g, e, hc⟩ := hn j (by simpa using hlt)
    refine ⟨g, e, hk.cellSome ?_ (by simp)⟩
    rw [hc, List.getElem?_map, hx]; rfl
  · have hlt : j < vs.length := by
      rcases Nat.lt_or_ge j vs.length with h | h
      · exact h
      · rw [List.getElem?_eq_none h] at hv; cases hv
    obtain ⟨g, e, hc⟩ := hl j hlt
    exact ⟨g, e, hk.cellSome (hc.trans hv) (by simp)⟩

set_option maxRecDepth 100000 in
set_option maxHeartbeats 2000000 in
theorem rtext_name (w0 : World) (lo hi : Nat) (p : Nat) (s : Bytes) (v : Value) (h : RExpAt w0 lo hi (.name p s) [] [] v) (_hw : wfE false (.name p s) = true) (_hl : (textE (.name p s)).length ≤ 200000)  : TextIH w0 (.name p s) v := by
  intro w hkw
  obtain ⟨_, _, h⟩ := h
  obtain ⟨b, sn, sl, hb1, hb2, rfl, hb, hrn, hrl⟩ := h
  obtain ⟨adn, capn, adl, capl, c0, c1, c2, hn, _⟩ := Node.facts (show Node w0 lo hi oName [s] [] p _ from ⟨b, sn, sl, hb1, hb2, rfl, hb, hrn, hrl⟩) hkw
  obtain ⟨gn, rfl, n0⟩ := hn 0 s rfl
  clear hn hb hrn hrl _hl _hw
  have d0 : w.cell? ⟨b, 0, none⟩ = some (.string ⟨#[110, 97, 109, 101]⟩) := c0
  clear c0
  go_enter Tryd.func11, Tryd.ntmps11
  go_wp2_with fail
  go_ret
  exact ⟨rfl, Keeps.refl _ _⟩

set_option maxRecDepth 100000 in
set_option maxHeartbeats 2000000 in
theorem rtext_num (w0 : World) (lo hi : Nat) (p : Nat) (s : Bytes) (v : Value) (h : RExpAt w0 lo hi (.num p s) [] [] v) (_hw : wfE false (.num p s) = true) (_hl : (textE (.num p s)).length ≤ 200000)  : TextIH w0 (.num p s) v := by
  intro w hkw
  obtain ⟨_, _, h⟩ := h
  obtain ⟨b, sn, sl, hb1, hb2, rfl, hb, hrn, hrl⟩ := h
  obtain ⟨adn, capn, adl, capl, c0, c1, c2, hn, _⟩ := Node.facts (show Node w0 lo hi oNum [s] [] p _ from ⟨b, sn, sl, hb1, hb2, rfl, hb, hrn, hrl⟩) hkw
  obtain ⟨gn, rfl, n0⟩ := hn 0 s rfl
  clear hn hb hrn hrl _hl _hw
  have d0 : w.cell? ⟨b, 0, none⟩ = some (.string ⟨#[110, 117, 109]⟩) := c0
  clear c0
  go_enter Tryd.func11, Tryd.ntmps11
  go_wp2_with fail
  go_ret
  exact ⟨rfl, Keeps.refl _ _⟩

set_option maxRecDepth 100000 in
set_option maxHeartbeats 2000000 in
theorem rtext_lam (w0 : World) (lo hi : Nat) (p : Nat) (x : Bytes) (a : Exp) (v : Value) (h : RExpAt w0 lo hi (.lam p x a) [] [] v) (hw : wfE false (.lam p x a) = true) (hl : (textE (.lam p x a)).length ≤ 200000) (iha : ∀ v, RExpAt w0 lo hi a [] [] v → TextIH w0 a v) : TextIH w0 (.lam p x a) v := by
  intro w hkw
  obtain ⟨_, _, va, h, ha⟩ := h
  obtain ⟨b, sn, sl, hb1, hb2, rfl, hb, hrn, hrl⟩ := h
  obtain ⟨adn, capn, adl, capl, c0, c1, c2, hn, hv⟩ := Node.facts (show Node w0 lo hi oFun [x] [va] p _ from ⟨b, sn, sl, hb1, hb2, rfl, hb, hrn, hrl⟩) hkw
  obtain ⟨gn, rfl, n0⟩ := hn 0 _ rfl
  obtain ⟨gl, rfl, l0⟩ := hv 0 _ rfl
  simp only [wfE] at hw
  obtain ⟨ba, rfl⟩ := ha.ptr hw
  have Ha := Lib.hid (iha _ ha)
  simp only [textE, List.length_append, List.length_cons, List.length_nil] at hl
  have s1 : ¬ 9223372036854775807 < 4 + (bs x).size := by simp only [bs_size]; omega
  have s2 : ¬ 9223372036854775807 < 4 + (bs x).size + 4 := by simp only [bs_size]; omega
  have s3 : ¬ 9223372036854775807 < 4 + (bs x).size + 4 + (bs (textE a)).size := by simp only [bs_size]; omega
  have za : (bs (textE a)).size ≤ 200000 := by rw [bs_size]; omega
  have zx : (bs x).size ≤ 200000 := by rw [bs_size]; omega
  clear hn hv hb hrn hrl hl hw ha iha
  have d0 : w.cell? ⟨b, 0, none⟩ = some (.string ⟨#[102, 117, 110]⟩) := c0
  clear c0
  go_enter Tryd.func11, Tryd.ntmps11
  go_wp2_with fail
  go_region_held3 (fun W => W.cell? ⟨b, 1, none⟩ = some (.slice (some ⟨gn, 0, none⟩) 1 capn) ∧ W.cell? ⟨gn, 0, none⟩ = some (.string (bs x)) ∧ W.cell? ⟨b, 2, none⟩ = some (.slice (some ⟨gl, 0, none⟩) 1 capl) ∧ W.cell? ⟨gl, 0, none⟩ = some (.pointer (some ⟨ba, 0, none⟩)) ∧ Keeps [] w W)
    (first | exact ⟨(Keeps.refl [] w).drew.cellSome c1 (by simp), (Keeps.refl [] w).drew.cellSome n0 (by simp), (Keeps.refl [] w).drew.cellSome c2 (by simp), (Keeps.refl [] w).drew.cellSome l0 (by simp), (Keeps.refl [] w).drew⟩ | exact ⟨hka.cellSome c1 (by simp), hka.cellSome n0 (by simp), hka.cellSome c2 (by simp), hka.cellSome l0 (by simp), hka⟩)
    (first | (go_at_call_of 11 (Value.pointer (some (Addr.mk ba 0 none))); refine (Ha.out _ (hkw.trans0 ?_)).mono ?_; (first | exact (Keeps.refl [] w).drew | assumption); rintro e Wa ⟨rfl, hza⟩; have hka := Keeps.trans0 (show Keeps [] w _ by first | exact (Keeps.refl [] w).drew | assumption) hza; clear hza))
  all_goals
    go_wp2
    go_ret
    refine ⟨congrArg (fun b => Ending.returned (.string b)) ?_, by assumption⟩
    apply ba_ext
    simp [ByteArray.data_append, Array.toList_append, bs_data, textE]

set_option maxRecDepth 100000 in
set_option maxHeartbeats 2000000 in
theorem rtext_pair (w0 : World) (lo hi : Nat) (p : Nat) (f a : Exp) (v : Value) (h : RExpAt w0 lo hi (.pair p f a) [] [] v) (hw : wfE false (.pair p f a) = true) (hl : (textE (.pair p f a)).length ≤ 200000) (ihf : ∀ v, RExpAt w0 lo hi f [] [] v → TextIH w0 f v) (iha : ∀ v, RExpAt w0 lo hi a [] [] v → TextIH w0 a v) : TextIH w0 (.pair p f a) v := by
  intro w hkw
  obtain ⟨_, _, vf, va, h, hf, ha⟩ := h
  obtain ⟨b, sn, sl, hb1, hb2, rfl, hb, hrn, hrl⟩ := h
  obtain ⟨adn, capn, adl, capl, c0, c1, c2, hn, hv⟩ := Node.facts (show Node w0 lo hi oPair [] [vf, va] p _ from ⟨b, sn, sl, hb1, hb2, rfl, hb, hrn, hrl⟩) hkw
  obtain ⟨gl, rfl, l0⟩ := hv 0 _ rfl
  obtain ⟨gl, e1, l1⟩ := hv 1 _ rfl
  cases e1
  simp only [wfE, Bool.and_eq_true] at hw
  obtain ⟨bf, rfl⟩ := hf.ptr hw.1
  have Hf := Lib.hid (ihf _ hf)
  obtain ⟨ba, rfl⟩ := ha.ptr hw.2
  have Ha := Lib.hid (iha _ ha)
  simp only [textE, List.length_append, List.length_cons, List.length_nil] at hl
  have s1 : ¬ 9223372036854775807 < 1 + (bs (textE f)).size := by simp only [bs_size]; omega
  have s2 : ¬ 9223372036854775807 < 1 + (bs (textE f)).size + 2 := by simp only [bs_size]; omega
  have s3 : ¬ 9223372036854775807 < 1 + (bs (textE f)).size + 2 + (bs (textE a)).size := by simp only [bs_size]; omega
  have s4 : ¬ 9223372036854775807 < 1 + (bs (textE f)).size + 2 + (bs (textE a)).size + 1 := by simp only [bs_size]; omega
  have zf : (bs (textE f)).size ≤ 200000 := by rw [bs_size]; omega
  have za : (bs (textE a)).size ≤ 200000 := by rw [bs_size]; omega
  clear hn hv hb hrn hrl hl hw hf ihf ha iha
  have d0 : w.cell? ⟨b, 0, none⟩ = some (.string ⟨#[112, 97, 105, 114]⟩) := c0
  clear c0
  go_enter Tryd.func11, Tryd.ntmps11
  go_wp2_with fail
  go_region_held3 (fun W => W.cell? ⟨b, 2, none⟩ = some (.slice (some ⟨gl, 0, none⟩) 2 capl) ∧ W.cell? ⟨gl, 0, none⟩ = some (.pointer (some ⟨bf, 0, none⟩)) ∧ W.cell? ⟨gl, 1, none⟩ = some (.pointer (some ⟨ba, 0, none⟩)) ∧ Keeps [] w W)
    (first | exact ⟨(Keeps.refl [] w).drew.cellSome c2 (by simp), (Keeps.refl [] w).drew.cellSome l0 (by simp), (Keeps.refl [] w).drew.cellSome l1 (by simp), (Keeps.refl [] w).drew⟩ | exact ⟨hka.cellSome c2 (by simp), hka.cellSome l0 (by simp), hka.cellSome l1 (by simp), hka⟩ | exact ⟨hkf.cellSome c2 (by simp), hkf.cellSome l0 (by simp), hkf.cellSome l1 (by simp), hkf⟩)
    (first | (go_at_call_of 11 (Value.pointer (some (Addr.mk bf 0 none))); refine (Hf.out _ (hkw.trans0 ?_)).mono ?_; (first | exact (Keeps.refl [] w).drew | assumption); rintro e Wf ⟨rfl, hzf⟩; have hkf := Keeps.trans0 (show Keeps [] w _ by first | exact (Keeps.refl [] w).drew | assumption) hzf; clear hzf) | (go_at_call_of 11 (Value.pointer (some (Addr.mk ba 0 none))); refine (Ha.out _ (hkw.trans0 ?_)).mono ?_; (first | exact (Keeps.refl [] w).drew | assumption); rintro e Wa ⟨rfl, hza⟩; have hka := Keeps.trans0 (show Keeps [] w _ by first | exact (Keeps.refl [] w).drew | assumption) hza; clear hza))
  all_goals
    go_wp2
    go_ret
    refine ⟨congrArg (fun b => Ending.returned (.string b)) ?_, by assumption⟩
    apply ba_ext
    simp [ByteArray.data_append, Array.toList_append, bs_data, textE]

set_option maxRecDepth 100000 in
set_option maxHeartbeats 2000000 in
theorem rtext_cond (w0 : World) (lo hi : Nat) (p : Nat) (c f a : Exp) (v : Value) (h : RExpAt w0 lo hi (.cond p c f a) [] [] v) (hw : wfE false (.cond p c f a) = true) (hl : (textE (.cond p c f a)).length ≤ 200000) (ihc : ∀ v, RExpAt w0 lo hi c [] [] v → TextIH w0 c v) (ihf : ∀ v, RExpAt w0 lo hi f [] [] v → TextIH w0 f v) (iha : ∀ v, RExpAt w0 lo hi a [] [] v → TextIH w0 a v) : TextIH w0 (.cond p c f a) v := by
  intro w hkw
  obtain ⟨_, _, vc, vf, va, h, hc, hf, ha⟩ := h
  obtain ⟨b, sn, sl, hb1, hb2, rfl, hb, hrn, hrl⟩ := h
  obtain ⟨adn, capn, adl, capl, c0, c1, c2, hn, hv⟩ := Node.facts (show Node w0 lo hi oIf [] [vc, vf, va] p _ from ⟨b, sn, sl, hb1, hb2, rfl, hb, hrn, hrl⟩) hkw
  obtain ⟨gl, rfl, l0⟩ := hv 0 _ rfl
  obtain ⟨gl, e1, l1⟩ := hv 1 _ rfl
  cases e1
  obtain ⟨gl, e2, l2⟩ := hv 2 _ rfl
  cases e2
  simp only [wfE, Bool.and_eq_true] at hw
  obtain ⟨bc, rfl⟩ := hc.ptr hw.1.1
  have Hc := Lib.hid (ihc _ hc)
  obtain ⟨bf, rfl⟩ := hf.ptr hw.1.2
  have Hf := Lib.hid (ihf _ hf)
  obtain ⟨ba, rfl⟩ := ha.ptr hw.2
  have Ha := Lib.hid (iha _ ha)
  simp only [textE, List.length_append, List.length_cons, List.length_nil] at hl
  have s1 : ¬ 9223372036854775807 < 3 + (bs (textE c)).size := by simp only [bs_size]; omega
  have s2 : ¬ 9223372036854775807 < 3 + (bs (textE c)).size + 6 := by simp only [bs_size]; omega
  have s3 : ¬ 9223372036854775807 < 3 + (bs (textE c)).size + 6 + (bs (textE f)).size := by simp only [bs_size]; omega
  have s4 : ¬ 9223372036854775807 < 3 + (bs (textE c)).size + 6 + (bs (textE f)).size + 6 := by simp only [bs_size]; omega
  have s5 : ¬ 9223372036854775807 < 3 + (bs (textE c)).size + 6 + (bs (textE f)).size + 6 + (bs (textE a)).size := by simp only [bs_size]; omega
  have zc : (bs (textE c)).size ≤ 200000 := by rw [bs_size]; omega
  have zf : (bs (textE f)).size ≤ 200000 := by rw [bs_size]; omega
  have za : (bs (textE a)).size ≤ 200000 := by rw [bs_size]; omega
  clear hn hv hb hrn hrl hl hw hc ihc hf ihf ha iha
  have d0 : w.cell? ⟨b, 0, none⟩ = some (.string ⟨#[105, 102]⟩) := c0
  clear c0
  go_enter Tryd.func11, Tryd.ntmps11
  go_wp2_with fail
  go_region_held3 (fun W => W.cell? ⟨b, 2, none⟩ = some (.slice (some ⟨gl, 0, none⟩) 3 capl) ∧ W.cell? ⟨gl, 0, none⟩ = some (.pointer (some ⟨bc, 0, none⟩)) ∧ W.cell? ⟨gl, 1, none⟩ = some (.pointer (some ⟨bf, 0, none⟩)) ∧ W.cell? ⟨gl, 2, none⟩ = some (.pointer (some ⟨ba, 0, none⟩)) ∧ Keeps [] w W)
    (first | exact ⟨(Keeps.refl [] w).drew.cellSome c2 (by simp), (Keeps.refl [] w).drew.cellSome l0 (by simp), (Keeps.refl [] w).drew.cellSome l1 (by simp), (Keeps.refl [] w).drew.cellSome l2 (by simp), (Keeps.refl [] w).drew⟩ | exact ⟨hka.cellSome c2 (by simp), hka.cellSome l0 (by simp), hka.cellSome l1 (by simp), hka.cellSome l2 (by simp), hka⟩ | exact ⟨hkf.cellSome c2 (by simp), hkf.cellSome l0 (by simp), hkf.cellSome l1 (by simp), hkf.cellSome l2 (by simp), hkf⟩ | exact ⟨hkc.cellSome c2 (by simp), hkc.cellSome l0 (by simp), hkc.cellSome l1 (by simp), hkc.cellSome l2 (by simp), hkc⟩)
    (first | (go_at_call_of 11 (Value.pointer (some (Addr.mk bc 0 none))); refine (Hc.out _ (hkw.trans0 ?_)).mono ?_; (first | exact (Keeps.refl [] w).drew | assumption); rintro e Wc ⟨rfl, hzc⟩; have hkc := Keeps.trans0 (show Keeps [] w _ by first | exact (Keeps.refl [] w).drew | assumption) hzc; clear hzc) | (go_at_call_of 11 (Value.pointer (some (Addr.mk bf 0 none))); refine (Hf.out _ (hkw.trans0 ?_)).mono ?_; (first | exact (Keeps.refl [] w).drew | assumption); rintro e Wf ⟨rfl, hzf⟩; have hkf := Keeps.trans0 (show Keeps [] w _ by first | exact (Keeps.refl [] w).drew | assumption) hzf; clear hzf) | (go_at_call_of 11 (Value.pointer (some (Addr.mk ba 0 none))); refine (Ha.out _ (hkw.trans0 ?_)).mono ?_; (first | exact (Keeps.refl [] w).drew | assumption); rintro e Wa ⟨rfl, hza⟩; have hka := Keeps.trans0 (show Keeps [] w _ by first | exact (Keeps.refl [] w).drew | assumption) hza; clear hza))
  all_goals
    go_wp2
    go_ret
    refine ⟨congrArg (fun b => Ending.returned (.string b)) ?_, by assumption⟩
    apply ba_ext
    simp [ByteArray.data_append, Array.toList_append, bs_data, textE]

end Go.Proofs.YtpbplpnifjbkoaaDoor

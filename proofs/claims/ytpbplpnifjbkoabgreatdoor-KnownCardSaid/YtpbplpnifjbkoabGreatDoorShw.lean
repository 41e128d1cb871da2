/-
  ast.Show, by contracts: all but a let rec and an application. Printed by gen_show.py.
-/
import Derived.Test.YtpbplpnifjbkoabGreatDoorReds
import Derived.Test.YtpbplpnifjbkoabGreatDoorShelf
import Derived.Deep.RegionHeld3
import Derived.Deep.LoopGhost
namespace Go.Proofs.YtpbplpnifjbkoabGreatDoor
open Go.RowKit

/-- The contract: in whatever world that keeps the one in which the expression lies. -/
def ShowIH (w : World) (x : Exp) (v : Value) : Prop := ∀ W, Keeps [] w W → Calls Tryz.prog 76 #[v] W fun e W' => e = .returned (.string (bs (textE x))) ∧ Keeps [] W W'


set_option maxRecDepth 100000 in
set_option maxHeartbeats 4000000 in
theorem show_lam (w0 : World) (lo hi : Nat) (p : Nat) (x : Bytes) (b : Exp) (v : Value) (h : ExprAt w0 lo hi (.lam p x b) [] [] v) (hw : wfE false (.lam p x b) = true) (hl : (textE (.lam p x b)).length ≤ 200000)
    (ihb : ∀ v, ExprAt w0 lo hi b [] [] v → ShowIH w0 b v) : ShowIH w0 (.lam p x b) v := by
  intro w hkw
  obtain ⟨_, _, c, vb, h3, h4, rfl, h6, hb⟩ := h
  obtain ⟨tb, bb, rfl⟩ := hb.ifp hw
  have cx : w.cell? ⟨c, 1, none⟩ = some (.string (bs x)) := hkw.cellSome (cell_of_block h6 1) (by simp)
  have cb : w.cell? ⟨c, 2, none⟩ = some (ifp tb bb) := hkw.cellSome (cell_of_block h6 2) (by simp)
  have Hb := Lib.hid (ihb _ hb)
  simp only [textE, List.length_append, List.length_cons, List.length_nil] at hl
  have s0 : ¬ 9223372036854775807 < 4 + (bs x).size := by simp only [bs_size]; omega
  have s1 : ¬ 9223372036854775807 < 4 + (bs x).size + 4 := by simp only [bs_size]; omega
  have s2 : ¬ 9223372036854775807 < 4 + (bs x).size + 4 + (bs (textE b)).size := by simp only [bs_size]; omega
  have hres : (⟨#[102, 117, 110, 32]⟩ : ByteArray) ++ bs x ++ ⟨#[32, 45, 62, 32]⟩ ++ bs (textE b) = bs (textE (.lam p x b)) := by
    apply ba_ext
    simp only [ByteArray.data_append, Array.toList_append, bs_data, textE]
  have HRES := Lib.hid hres
  clear ihb h3 h4 h6 hb hw hl hres
  have qName := taFunName (.pointer (some ⟨c, 0, none⟩)) 108 w
  have qNum := taFunNum (.pointer (some ⟨c, 0, none⟩)) 108 w
  have qFun := taFunFun (.pointer (some ⟨c, 0, none⟩)) 108 w
  go_enter Tryz.func76, Tryz.ntmps76
  go_wp2_with fail
  clear qName qNum qFun
  go_region_held3 (fun W => W.cell? ⟨c, 1, none⟩ = some (.string (bs x)) ∧ W.cell? ⟨c, 2, none⟩ = some (ifp tb bb) ∧ Keeps [] w W)
    (first | exact ⟨(Keeps.refl [] w).drew.cellSome cx (by simp), (Keeps.refl [] w).drew.cellSome cb (by simp), (Keeps.refl [] w).drew⟩ | exact ⟨hkb.cellSome cx (by simp), hkb.cellSome cb (by simp), hkb⟩)
    (first | (go_at_call_of 76 (ifp tb bb); refine (Hb.out _ (hkw.trans0 ?_)).mono ?_; (first | exact (Keeps.refl [] w).drew | assumption); rintro e Wb ⟨rfl, hzb⟩; have hkb := Keeps.trans0 (show Keeps [] w _ by first | exact (Keeps.refl [] w).drew | assumption) hzb; clear hzb))
  all_goals
    go_wp2
    go_ret
    exact ⟨congrArg (fun b => Ending.returned (.string b)) HRES.out, by assumption⟩

set_option maxRecDepth 100000 in
set_option maxHeartbeats 4000000 in
theorem show_pair (w0 : World) (lo hi : Nat) (p : Nat) (f a : Exp) (v : Value) (h : ExprAt w0 lo hi (.pair p f a) [] [] v) (hw : wfE false (.pair p f a) = true) (hl : (textE (.pair p f a)).length ≤ 200000)
    (ihf : ∀ v, ExprAt w0 lo hi f [] [] v → ShowIH w0 f v) (iha : ∀ v, ExprAt w0 lo hi a [] [] v → ShowIH w0 a v) : ShowIH w0 (.pair p f a) v := by
  intro w hkw
  obtain ⟨_, _, c, vf, va, h3, h4, rfl, h6, hf, ha⟩ := h
  simp only [wfE, Bool.and_eq_true] at hw
  obtain ⟨wf, wa⟩ := hw
  obtain ⟨tf, bf, rfl⟩ := hf.ifp wf
  obtain ⟨ta, ba, rfl⟩ := ha.ifp wa
  have cf : w.cell? ⟨c, 1, none⟩ = some (ifp tf bf) := hkw.cellSome (cell_of_block h6 1) (by simp)
  have ca : w.cell? ⟨c, 2, none⟩ = some (ifp ta ba) := hkw.cellSome (cell_of_block h6 2) (by simp)
  have Hf := Lib.hid (ihf _ hf)
  have Ha := Lib.hid (iha _ ha)
  simp only [textE, List.length_append, List.length_cons, List.length_nil] at hl
  have s0 : ¬ 9223372036854775807 < 1 + (bs (textE f)).size := by simp only [bs_size]; omega
  have s1 : ¬ 9223372036854775807 < 1 + (bs (textE f)).size + 2 := by simp only [bs_size]; omega
  have s2 : ¬ 9223372036854775807 < 1 + (bs (textE f)).size + 2 + (bs (textE a)).size := by simp only [bs_size]; omega
  have s3 : ¬ 9223372036854775807 < 1 + (bs (textE f)).size + 2 + (bs (textE a)).size + 1 := by simp only [bs_size]; omega
  have hres : (⟨#[40]⟩ : ByteArray) ++ bs (textE f) ++ ⟨#[44, 32]⟩ ++ bs (textE a) ++ ⟨#[41]⟩ = bs (textE (.pair p f a)) := by
    apply ba_ext
    simp only [ByteArray.data_append, Array.toList_append, bs_data, textE]
  have HRES := Lib.hid hres
  clear ihf iha h3 h4 h6 hf ha wf wa hl hres
  have qName := taPairName (.pointer (some ⟨c, 0, none⟩)) 108 w
  have qNum := taPairNum (.pointer (some ⟨c, 0, none⟩)) 108 w
  have qFun := taPairFun (.pointer (some ⟨c, 0, none⟩)) 108 w
  have qPair := taPairPair (.pointer (some ⟨c, 0, none⟩)) 108 w
  go_enter Tryz.func76, Tryz.ntmps76
  go_wp2_with fail
  clear qName qNum qFun qPair
  go_region_held3 (fun W => W.cell? ⟨c, 1, none⟩ = some (ifp tf bf) ∧ W.cell? ⟨c, 2, none⟩ = some (ifp ta ba) ∧ Keeps [] w W)
    (first | exact ⟨(Keeps.refl [] w).drew.cellSome cf (by simp), (Keeps.refl [] w).drew.cellSome ca (by simp), (Keeps.refl [] w).drew⟩ | exact ⟨hka.cellSome cf (by simp), hka.cellSome ca (by simp), hka⟩ | exact ⟨hkf.cellSome cf (by simp), hkf.cellSome ca (by simp), hkf⟩)
    (first | (go_at_call_of 76 (ifp tf bf); refine (Hf.out _ (hkw.trans0 ?_)).mono ?_; (first | exact (Keeps.refl [] w).drew | assumption); rintro e Wf ⟨rfl, hzf⟩; have hkf := Keeps.trans0 (show Keeps [] w _ by first | exact (Keeps.refl [] w).drew | assumption) hzf; clear hzf) | (go_at_call_of 76 (ifp ta ba); refine (Ha.out _ (hkw.trans0 ?_)).mono ?_; (first | exact (Keeps.refl [] w).drew | assumption); rintro e Wa ⟨rfl, hza⟩; have hka := Keeps.trans0 (show Keeps [] w _ by first | exact (Keeps.refl [] w).drew | assumption) hza; clear hza))
  all_goals
    go_wp2
    go_ret
    exact ⟨congrArg (fun b => Ending.returned (.string b)) HRES.out, by assumption⟩

set_option maxRecDepth 100000 in
set_option maxHeartbeats 4000000 in
theorem show_letin (w0 : World) (lo hi : Nat) (p : Nat) (x : Bytes) (f a : Exp) (v : Value) (h : ExprAt w0 lo hi (.letin p x f a) [] [] v) (hw : wfE false (.letin p x f a) = true) (hl : (textE (.letin p x f a)).length ≤ 200000)
    (ihf : ∀ v, ExprAt w0 lo hi f [] [] v → ShowIH w0 f v) (iha : ∀ v, ExprAt w0 lo hi a [] [] v → ShowIH w0 a v) : ShowIH w0 (.letin p x f a) v := by
  intro w hkw
  obtain ⟨_, _, c, vf, va, h3, h4, rfl, h6, hf, ha⟩ := h
  simp only [wfE, Bool.and_eq_true] at hw
  obtain ⟨wf, wa⟩ := hw
  obtain ⟨tf, bf, rfl⟩ := hf.ifp wf
  obtain ⟨ta, ba, rfl⟩ := ha.ifp wa
  have cx : w.cell? ⟨c, 1, none⟩ = some (.string (bs x)) := hkw.cellSome (cell_of_block h6 1) (by simp)
  have cf : w.cell? ⟨c, 2, none⟩ = some (ifp tf bf) := hkw.cellSome (cell_of_block h6 2) (by simp)
  have ca : w.cell? ⟨c, 3, none⟩ = some (ifp ta ba) := hkw.cellSome (cell_of_block h6 3) (by simp)
  have Hf := Lib.hid (ihf _ hf)
  have Ha := Lib.hid (iha _ ha)
  simp only [textE, List.length_append, List.length_cons, List.length_nil] at hl
  have s0 : ¬ 9223372036854775807 < 4 + (bs x).size := by simp only [bs_size]; omega
  have s1 : ¬ 9223372036854775807 < 4 + (bs x).size + 3 := by simp only [bs_size]; omega
  have s2 : ¬ 9223372036854775807 < 4 + (bs x).size + 3 + (bs (textE f)).size := by simp only [bs_size]; omega
  have s3 : ¬ 9223372036854775807 < 4 + (bs x).size + 3 + (bs (textE f)).size + 4 := by simp only [bs_size]; omega
  have s4 : ¬ 9223372036854775807 < 4 + (bs x).size + 3 + (bs (textE f)).size + 4 + (bs (textE a)).size := by simp only [bs_size]; omega
  have hres : (⟨#[108, 101, 116, 32]⟩ : ByteArray) ++ bs x ++ ⟨#[32, 61, 32]⟩ ++ bs (textE f) ++ ⟨#[32, 105, 110, 32]⟩ ++ bs (textE a) = bs (textE (.letin p x f a)) := by
    apply ba_ext
    simp only [ByteArray.data_append, Array.toList_append, bs_data, textE]
  have HRES := Lib.hid hres
  clear ihf iha h3 h4 h6 hf ha wf wa hl hres
  have qName := taLetName (.pointer (some ⟨c, 0, none⟩)) 108 w
  have qNum := taLetNum (.pointer (some ⟨c, 0, none⟩)) 108 w
  have qFun := taLetFun (.pointer (some ⟨c, 0, none⟩)) 108 w
  have qPair := taLetPair (.pointer (some ⟨c, 0, none⟩)) 108 w
  have qLet := taLetLet (.pointer (some ⟨c, 0, none⟩)) 108 w
  go_enter Tryz.func76, Tryz.ntmps76
  go_wp2_with fail
  clear qName qNum qFun qPair qLet
  go_region_held3 (fun W => W.cell? ⟨c, 1, none⟩ = some (.string (bs x)) ∧ W.cell? ⟨c, 2, none⟩ = some (ifp tf bf) ∧ W.cell? ⟨c, 3, none⟩ = some (ifp ta ba) ∧ Keeps [] w W)
    (first | exact ⟨(Keeps.refl [] w).drew.cellSome cx (by simp), (Keeps.refl [] w).drew.cellSome cf (by simp), (Keeps.refl [] w).drew.cellSome ca (by simp), (Keeps.refl [] w).drew⟩ | exact ⟨hka.cellSome cx (by simp), hka.cellSome cf (by simp), hka.cellSome ca (by simp), hka⟩ | exact ⟨hkf.cellSome cx (by simp), hkf.cellSome cf (by simp), hkf.cellSome ca (by simp), hkf⟩)
    (first | (go_at_call_of 76 (ifp tf bf); refine (Hf.out _ (hkw.trans0 ?_)).mono ?_; (first | exact (Keeps.refl [] w).drew | assumption); rintro e Wf ⟨rfl, hzf⟩; have hkf := Keeps.trans0 (show Keeps [] w _ by first | exact (Keeps.refl [] w).drew | assumption) hzf; clear hzf) | (go_at_call_of 76 (ifp ta ba); refine (Ha.out _ (hkw.trans0 ?_)).mono ?_; (first | exact (Keeps.refl [] w).drew | assumption); rintro e Wa ⟨rfl, hza⟩; have hka := Keeps.trans0 (show Keeps [] w _ by first | exact (Keeps.refl [] w).drew | assumption) hza; clear hza))
  all_goals
    go_wp2
    go_ret
    exact ⟨congrArg (fun b => Ending.returned (.string b)) HRES.out, by assumption⟩

set_option maxRecDepth 100000 in
set_option maxHeartbeats 4000000 in
theorem show_cond (w0 : World) (lo hi : Nat) (p : Nat) (d f a : Exp) (v : Value) (h : ExprAt w0 lo hi (.cond p d f a) [] [] v) (hw : wfE false (.cond p d f a) = true) (hl : (textE (.cond p d f a)).length ≤ 200000)
    (ihd : ∀ v, ExprAt w0 lo hi d [] [] v → ShowIH w0 d v) (ihf : ∀ v, ExprAt w0 lo hi f [] [] v → ShowIH w0 f v) (iha : ∀ v, ExprAt w0 lo hi a [] [] v → ShowIH w0 a v) : ShowIH w0 (.cond p d f a) v := by
  intro w hkw
  obtain ⟨_, _, c, vd, vf, va, h3, h4, rfl, h6, hd, hf, ha⟩ := h
  simp only [wfE, Bool.and_eq_true] at hw
  obtain ⟨⟨wd, wf⟩, wa⟩ := hw
  obtain ⟨td, bd, rfl⟩ := hd.ifp wd
  obtain ⟨tf, bf, rfl⟩ := hf.ifp wf
  obtain ⟨ta, ba, rfl⟩ := ha.ifp wa
  have cd : w.cell? ⟨c, 1, none⟩ = some (ifp td bd) := hkw.cellSome (cell_of_block h6 1) (by simp)
  have cf : w.cell? ⟨c, 2, none⟩ = some (ifp tf bf) := hkw.cellSome (cell_of_block h6 2) (by simp)
  have ca : w.cell? ⟨c, 3, none⟩ = some (ifp ta ba) := hkw.cellSome (cell_of_block h6 3) (by simp)
  have Hd := Lib.hid (ihd _ hd)
  have Hf := Lib.hid (ihf _ hf)
  have Ha := Lib.hid (iha _ ha)
  simp only [textE, List.length_append, List.length_cons, List.length_nil] at hl
  have s0 : ¬ 9223372036854775807 < 3 + (bs (textE d)).size := by simp only [bs_size]; omega
  have s1 : ¬ 9223372036854775807 < 3 + (bs (textE d)).size + 6 := by simp only [bs_size]; omega
  have s2 : ¬ 9223372036854775807 < 3 + (bs (textE d)).size + 6 + (bs (textE f)).size := by simp only [bs_size]; omega
  have s3 : ¬ 9223372036854775807 < 3 + (bs (textE d)).size + 6 + (bs (textE f)).size + 6 := by simp only [bs_size]; omega
  have s4 : ¬ 9223372036854775807 < 3 + (bs (textE d)).size + 6 + (bs (textE f)).size + 6 + (bs (textE a)).size := by simp only [bs_size]; omega
  have hres : (⟨#[105, 102, 32]⟩ : ByteArray) ++ bs (textE d) ++ ⟨#[32, 116, 104, 101, 110, 32]⟩ ++ bs (textE f) ++ ⟨#[32, 101, 108, 115, 101, 32]⟩ ++ bs (textE a) = bs (textE (.cond p d f a)) := by
    apply ba_ext
    simp only [ByteArray.data_append, Array.toList_append, bs_data, textE]
  have HRES := Lib.hid hres
  clear ihd ihf iha h3 h4 h6 hd hf ha wd wf wa hl hres
  have qName := taIfName (.pointer (some ⟨c, 0, none⟩)) 108 w
  have qNum := taIfNum (.pointer (some ⟨c, 0, none⟩)) 108 w
  have qFun := taIfFun (.pointer (some ⟨c, 0, none⟩)) 108 w
  have qPair := taIfPair (.pointer (some ⟨c, 0, none⟩)) 108 w
  have qLet := taIfLet (.pointer (some ⟨c, 0, none⟩)) 108 w
  have qIf := taIfIf (.pointer (some ⟨c, 0, none⟩)) 108 w
  go_enter Tryz.func76, Tryz.ntmps76
  go_wp2_with fail
  clear qName qNum qFun qPair qLet qIf
  go_region_held3 (fun W => W.cell? ⟨c, 1, none⟩ = some (ifp td bd) ∧ W.cell? ⟨c, 2, none⟩ = some (ifp tf bf) ∧ W.cell? ⟨c, 3, none⟩ = some (ifp ta ba) ∧ Keeps [] w W)
    (first | exact ⟨(Keeps.refl [] w).drew.cellSome cd (by simp), (Keeps.refl [] w).drew.cellSome cf (by simp), (Keeps.refl [] w).drew.cellSome ca (by simp), (Keeps.refl [] w).drew⟩ | exact ⟨hka.cellSome cd (by simp), hka.cellSome cf (by simp), hka.cellSome ca (by simp), hka⟩ | exact ⟨hkf.cellSome cd (by simp), hkf.cellSome cf (by simp), hkf.cellSome ca (by simp), hkf⟩ | exact ⟨hkd.cellSome cd (by simp), hkd.cellSome cf (by simp), hkd.cellSome ca (by simp), hkd⟩)
    (first | (go_at_call_of 76 (ifp td bd); refine (Hd.out _ (hkw.trans0 ?_)).mono ?_; (first | exact (Keeps.refl [] w).drew | assumption); rintro e Wd ⟨rfl, hzd⟩; have hkd := Keeps.trans0 (show Keeps [] w _ by first | exact (Keeps.refl [] w).drew | assumption) hzd; clear hzd) | (go_at_call_of 76 (ifp tf bf); refine (Hf.out _ (hkw.trans0 ?_)).mono ?_; (first | exact (Keeps.refl [] w).drew | assumption); rintro e Wf ⟨rfl, hzf⟩; have hkf := Keeps.trans0 (show Keeps [] w _ by first | exact (Keeps.refl [] w).drew | assumption) hzf; clear hzf) | (go_at_call_of 76 (ifp ta ba); refine (Ha.out _ (hkw.trans0 ?_)).mono ?_; (first | exact (Keeps.refl [] w).drew | assumption); rintro e Wa ⟨rfl, hza⟩; have hka := Keeps.trans0 (show Keeps [] w _ by first | exact (Keeps.refl [] w).drew | assumption) hza; clear hza))
  all_goals
    go_wp2
    go_ret
    exact ⟨congrArg (fun b => Ending.returned (.string b)) HRES.out, by assumption⟩

set_option maxRecDepth 100000 in
theorem show_name (w0 : World) (lo hi p : Nat) (s : Bytes) (v : Value) (h : ExprAt w0 lo hi (.name p s) [] [] v) : ShowIH w0 (.name p s) v := by
  intro w hkw
  obtain ⟨_, _, c, h3, h4, rfl, h6⟩ := h
  have cs : w.cell? ⟨c, 1, none⟩ = some (.string (bs s)) := hkw.cellSome (cell_of_block h6 1) (by simp)
  clear h3 h4 h6
  have qName := taNameName (.pointer (some ⟨c, 0, none⟩)) 108 w
  go_enter Tryz.func76, Tryz.ntmps76
  go_wp2
  go_ret
  exact ⟨rfl, Keeps.refl [] w⟩

set_option maxRecDepth 100000 in
theorem show_num (w0 : World) (lo hi p : Nat) (s : Bytes) (v : Value) (h : ExprAt w0 lo hi (.num p s) [] [] v) : ShowIH w0 (.num p s) v := by
  intro w hkw
  obtain ⟨_, _, c, h3, h4, rfl, h6⟩ := h
  have cs : w.cell? ⟨c, 1, none⟩ = some (.string (bs s)) := hkw.cellSome (cell_of_block h6 1) (by simp)
  clear h3 h4 h6
  have qName := taNumName (.pointer (some ⟨c, 0, none⟩)) 108 w
  have qNum := taNumNum (.pointer (some ⟨c, 0, none⟩)) 108 w
  go_enter Tryz.func76, Tryz.ntmps76
  go_wp2
  go_ret
  exact ⟨rfl, Keeps.refl [] w⟩

end Go.Proofs.YtpbplpnifjbkoabGreatDoor

namespace Go.Proofs.YtpbplpnifjbkoabGreatDoor
open Go.RowKit

/-- What atom gives. -/
def textA (x : Exp) : Bytes := if bareArg x then textE x else par (textE x)
def AtomTextIH (w : World) (x : Exp) (v : Value) : Prop := ∀ W, Keeps [] w W → Calls Tryz.prog 121 #[v] W fun e W' => e = .returned (.string (bs (textA x))) ∧ Keeps [] W W'

set_option maxRecDepth 100000 in
theorem atomt_name (w0 : World) (lo hi : Nat) (p : Nat) (s : Bytes) (v : Value) (h : ExprAt w0 lo hi (.name p s) [] [] v) (hl : (textE (.name p s)).length ≤ 200000) (ih : ShowIH w0 (.name p s) v) : AtomTextIH w0 (.name p s) v := by
  intro w hkw
  have HS := Lib.hid (ih w hkw)
  obtain ⟨_, _, b, h3, h4, rfl, h6⟩ := h
  have qName := taNameName (.pointer (some ⟨b, 0, none⟩)) 108 w
  have qNum := taNameNum (.pointer (some ⟨b, 0, none⟩)) 108 w
  have qPair := taNamePair (.pointer (some ⟨b, 0, none⟩)) 108 w
  have s0 : ¬ 9223372036854775807 < 1 + (bs (textE (.name p s))).size := by rw [bs_size]; omega
  have s1 : ¬ 9223372036854775807 < 1 + (bs (textE (.name p s))).size + 1 := by rw [bs_size]; omega
  clear ih h3 h4 h6 hl
  go_enter Tryz.func121, Tryz.ntmps121
  go_wp2_with fail
  refine HS.out.mono ?_
  rintro e w1 ⟨rfl, hk⟩
  go_wp2
  go_ret
  exact ⟨rfl, hk⟩
  
  
  

set_option maxRecDepth 100000 in
theorem atomt_num (w0 : World) (lo hi : Nat) (p : Nat) (s : Bytes) (v : Value) (h : ExprAt w0 lo hi (.num p s) [] [] v) (hl : (textE (.num p s)).length ≤ 200000) (ih : ShowIH w0 (.num p s) v) : AtomTextIH w0 (.num p s) v := by
  intro w hkw
  have HS := Lib.hid (ih w hkw)
  obtain ⟨_, _, b, h3, h4, rfl, h6⟩ := h
  have qName := taNumName (.pointer (some ⟨b, 0, none⟩)) 108 w
  have qNum := taNumNum (.pointer (some ⟨b, 0, none⟩)) 108 w
  have qPair := taNumPair (.pointer (some ⟨b, 0, none⟩)) 108 w
  have s0 : ¬ 9223372036854775807 < 1 + (bs (textE (.num p s))).size := by rw [bs_size]; omega
  have s1 : ¬ 9223372036854775807 < 1 + (bs (textE (.num p s))).size + 1 := by rw [bs_size]; omega
  clear ih h3 h4 h6 hl
  go_enter Tryz.func121, Tryz.ntmps121
  go_wp2_with fail
  refine HS.out.mono ?_
  rintro e w1 ⟨rfl, hk⟩
  go_wp2
  go_ret
  exact ⟨rfl, hk⟩
  
  
  

set_option maxRecDepth 100000 in
theorem atomt_lam (w0 : World) (lo hi : Nat) (p : Nat) (x : Bytes) (e : Exp) (v : Value) (h : ExprAt w0 lo hi (.lam p x e) [] [] v) (hl : (textE (.lam p x e)).length ≤ 200000) (ih : ShowIH w0 (.lam p x e) v) : AtomTextIH w0 (.lam p x e) v := by
  intro w hkw
  have HS := Lib.hid (ih w hkw)
  obtain ⟨_, _, b, h2, h3, h4, rfl, h6⟩ := h
  have qName := taFunName (.pointer (some ⟨b, 0, none⟩)) 108 w
  have qNum := taFunNum (.pointer (some ⟨b, 0, none⟩)) 108 w
  have qPair := taFunPair (.pointer (some ⟨b, 0, none⟩)) 108 w
  have s0 : ¬ 9223372036854775807 < 1 + (bs (textE (.lam p x e))).size := by rw [bs_size]; omega
  have s1 : ¬ 9223372036854775807 < 1 + (bs (textE (.lam p x e))).size + 1 := by rw [bs_size]; omega
  clear ih h3 h4 h6 hl
  go_enter Tryz.func121, Tryz.ntmps121
  go_wp2_with fail
  refine HS.out.mono ?_
  rintro e w1 ⟨rfl, hk⟩
  go_wp2
  go_ret
  refine ⟨congrArg (fun b => Ending.returned (.string b)) ?_, hk⟩
  apply ba_ext
  simp only [ByteArray.data_append, Array.toList_append, bs_data, textA, bareArg, par]
  rfl

set_option maxRecDepth 100000 in
theorem atomt_app (w0 : World) (lo hi : Nat) (p : Nat) (f a : Exp) (v : Value) (h : ExprAt w0 lo hi (.app p f a) [] [] v) (hl : (textE (.app p f a)).length ≤ 200000) (ih : ShowIH w0 (.app p f a) v) : AtomTextIH w0 (.app p f a) v := by
  intro w hkw
  have HS := Lib.hid (ih w hkw)
  obtain ⟨_, _, b, h2, h1, h3, h4, rfl, h6⟩ := h
  have qName := taAppName (.pointer (some ⟨b, 0, none⟩)) 108 w
  have qNum := taAppNum (.pointer (some ⟨b, 0, none⟩)) 108 w
  have qPair := taAppPair (.pointer (some ⟨b, 0, none⟩)) 108 w
  have s0 : ¬ 9223372036854775807 < 1 + (bs (textE (.app p f a))).size := by rw [bs_size]; omega
  have s1 : ¬ 9223372036854775807 < 1 + (bs (textE (.app p f a))).size + 1 := by rw [bs_size]; omega
  clear ih h3 h4 h6 hl
  go_enter Tryz.func121, Tryz.ntmps121
  go_wp2_with fail
  refine HS.out.mono ?_
  rintro e w1 ⟨rfl, hk⟩
  go_wp2
  go_ret
  refine ⟨congrArg (fun b => Ending.returned (.string b)) ?_, hk⟩
  apply ba_ext
  simp only [ByteArray.data_append, Array.toList_append, bs_data, textA, bareArg, par]
  rfl

set_option maxRecDepth 100000 in
theorem atomt_pair (w0 : World) (lo hi : Nat) (p : Nat) (f a : Exp) (v : Value) (h : ExprAt w0 lo hi (.pair p f a) [] [] v) (hl : (textE (.pair p f a)).length ≤ 200000) (ih : ShowIH w0 (.pair p f a) v) : AtomTextIH w0 (.pair p f a) v := by
  intro w hkw
  have HS := Lib.hid (ih w hkw)
  obtain ⟨_, _, b, h2, h1, h3, h4, rfl, h6⟩ := h
  have qName := taPairName (.pointer (some ⟨b, 0, none⟩)) 108 w
  have qNum := taPairNum (.pointer (some ⟨b, 0, none⟩)) 108 w
  have qPair := taPairPair (.pointer (some ⟨b, 0, none⟩)) 108 w
  have s0 : ¬ 9223372036854775807 < 1 + (bs (textE (.pair p f a))).size := by rw [bs_size]; omega
  have s1 : ¬ 9223372036854775807 < 1 + (bs (textE (.pair p f a))).size + 1 := by rw [bs_size]; omega
  clear ih h3 h4 h6 hl
  go_enter Tryz.func121, Tryz.ntmps121
  go_wp2_with fail
  refine HS.out.mono ?_
  rintro e w1 ⟨rfl, hk⟩
  go_wp2
  go_ret
  exact ⟨rfl, hk⟩
  
  
  

set_option maxRecDepth 100000 in
theorem atomt_letin (w0 : World) (lo hi : Nat) (p : Nat) (x : Bytes) (f a : Exp) (v : Value) (h : ExprAt w0 lo hi (.letin p x f a) [] [] v) (hl : (textE (.letin p x f a)).length ≤ 200000) (ih : ShowIH w0 (.letin p x f a) v) : AtomTextIH w0 (.letin p x f a) v := by
  intro w hkw
  have HS := Lib.hid (ih w hkw)
  obtain ⟨_, _, b, h2, h1, h3, h4, rfl, h6⟩ := h
  have qName := taLetName (.pointer (some ⟨b, 0, none⟩)) 108 w
  have qNum := taLetNum (.pointer (some ⟨b, 0, none⟩)) 108 w
  have qPair := taLetPair (.pointer (some ⟨b, 0, none⟩)) 108 w
  have s0 : ¬ 9223372036854775807 < 1 + (bs (textE (.letin p x f a))).size := by rw [bs_size]; omega
  have s1 : ¬ 9223372036854775807 < 1 + (bs (textE (.letin p x f a))).size + 1 := by rw [bs_size]; omega
  clear ih h3 h4 h6 hl
  go_enter Tryz.func121, Tryz.ntmps121
  go_wp2_with fail
  refine HS.out.mono ?_
  rintro e w1 ⟨rfl, hk⟩
  go_wp2
  go_ret
  refine ⟨congrArg (fun b => Ending.returned (.string b)) ?_, hk⟩
  apply ba_ext
  simp only [ByteArray.data_append, Array.toList_append, bs_data, textA, bareArg, par]
  rfl

set_option maxRecDepth 100000 in
theorem atomt_cond (w0 : World) (lo hi : Nat) (p : Nat) (d f a : Exp) (v : Value) (h : ExprAt w0 lo hi (.cond p d f a) [] [] v) (hl : (textE (.cond p d f a)).length ≤ 200000) (ih : ShowIH w0 (.cond p d f a) v) : AtomTextIH w0 (.cond p d f a) v := by
  intro w hkw
  have HS := Lib.hid (ih w hkw)
  obtain ⟨_, _, b, h2, h1, h0, h3, h4, rfl, h6⟩ := h
  have qName := taIfName (.pointer (some ⟨b, 0, none⟩)) 108 w
  have qNum := taIfNum (.pointer (some ⟨b, 0, none⟩)) 108 w
  have qPair := taIfPair (.pointer (some ⟨b, 0, none⟩)) 108 w
  have s0 : ¬ 9223372036854775807 < 1 + (bs (textE (.cond p d f a))).size := by rw [bs_size]; omega
  have s1 : ¬ 9223372036854775807 < 1 + (bs (textE (.cond p d f a))).size + 1 := by rw [bs_size]; omega
  clear ih h3 h4 h6 hl
  go_enter Tryz.func121, Tryz.ntmps121
  go_wp2_with fail
  refine HS.out.mono ?_
  rintro e w1 ⟨rfl, hk⟩
  go_wp2
  go_ret
  refine ⟨congrArg (fun b => Ending.returned (.string b)) ?_, hk⟩
  apply ba_ext
  simp only [ByteArray.data_append, Array.toList_append, bs_data, textA, bareArg, par]
  rfl

set_option maxRecDepth 100000 in
theorem atomt_recr (w0 : World) (lo hi : Nat) (p : Nat) (g : Exp) (v : Value) (h : ExprAt w0 lo hi (.recr p g) [] [] v) (hl : (textE (.recr p g)).length ≤ 200000) (ih : ShowIH w0 (.recr p g) v) : AtomTextIH w0 (.recr p g) v := by
  intro w hkw
  have HS := Lib.hid (ih w hkw)
  obtain ⟨_, _, b, h2, h1, h0, h7, h8, h3, h4, rfl, h6⟩ := h
  have qName := taRecName (.pointer (some ⟨b, 0, none⟩)) 108 w
  have qNum := taRecNum (.pointer (some ⟨b, 0, none⟩)) 108 w
  have qPair := taRecPair (.pointer (some ⟨b, 0, none⟩)) 108 w
  have s0 : ¬ 9223372036854775807 < 1 + (bs (textE (.recr p g))).size := by rw [bs_size]; omega
  have s1 : ¬ 9223372036854775807 < 1 + (bs (textE (.recr p g))).size + 1 := by rw [bs_size]; omega
  clear ih h3 h4 h6 hl
  go_enter Tryz.func121, Tryz.ntmps121
  go_wp2_with fail
  refine HS.out.mono ?_
  rintro e w1 ⟨rfl, hk⟩
  go_wp2
  go_ret
  refine ⟨congrArg (fun b => Ending.returned (.string b)) ?_, hk⟩
  apply ba_ext
  simp only [ByteArray.data_append, Array.toList_append, bs_data, textA, bareArg, par]
  rfl

theorem atomt_any (w0 : World) (lo hi : Nat) (x : Exp) (v : Value) (h : ExprAt w0 lo hi x [] [] v) (hw : wfE false x = true) (hl : (textE x).length ≤ 200000) (ih : ShowIH w0 x v) : AtomTextIH w0 x v := by
  cases x with
  | name p s => exact atomt_name w0 lo hi p s v h hl ih
  | num p s => exact atomt_num w0 lo hi p s v h hl ih
  | lam p x e => exact atomt_lam w0 lo hi p x e v h hl ih
  | app p f a => exact atomt_app w0 lo hi p f a v h hl ih
  | pair p f a => exact atomt_pair w0 lo hi p f a v h hl ih
  | letin p x f a => exact atomt_letin w0 lo hi p x f a v h hl ih
  | cond p d f a => exact atomt_cond w0 lo hi p d f a v h hl ih
  | recr p g => exact atomt_recr w0 lo hi p g v h hl ih
  | bnd x a g => simp [wfE] at hw
  | fin b => simp [wfE] at hw

def isApp : Exp → Bool
  | .app _ _ _ => true
  | _ => false
theorem taApp {w0 : World} {lo hi : Nat} {x : Exp} {ty bb : Nat} (h : ExprAt w0 lo hi x [] [] (ifp ty bb)) (hw : wfE false x = true) (W : World) :
    ∃ u, (Instr.typeAssert (ifp ty bb) 108 261 true).run Tryz.prog W = .ok (.tuple #[.pointer u, .bool (isApp x)]) W := by
  cases x with

  | name p s =>
    obtain ⟨_, _, b, h3, h4, h5, h6⟩ := h
    obtain ⟨rfl, rfl⟩ : ty = 207 ∧ bb = b := by simpa using h5
    exact ⟨_, taNameApp _ _ W⟩
  | num p s =>
    obtain ⟨_, _, b, h3, h4, h5, h6⟩ := h
    obtain ⟨rfl, rfl⟩ : ty = 251 ∧ bb = b := by simpa using h5
    exact ⟨_, taNumApp _ _ W⟩
  | lam p x e =>
    obtain ⟨_, _, b, h2, h3, h4, h5, h6⟩ := h
    obtain ⟨rfl, rfl⟩ : ty = 212 ∧ bb = b := by simpa using h5
    exact ⟨_, taFunApp _ _ W⟩
  | app p f a =>
    obtain ⟨_, _, b, h2, h1, h3, h4, h5, h6⟩ := h
    obtain ⟨rfl, rfl⟩ : ty = 261 ∧ bb = b := by simpa using h5
    exact ⟨_, taAppApp _ _ W⟩
  | pair p f a =>
    obtain ⟨_, _, b, h2, h1, h3, h4, h5, h6⟩ := h
    obtain ⟨rfl, rfl⟩ : ty = 254 ∧ bb = b := by simpa using h5
    exact ⟨_, taPairApp _ _ W⟩
  | letin p x f a =>
    obtain ⟨_, _, b, h2, h1, h3, h4, h5, h6⟩ := h
    obtain ⟨rfl, rfl⟩ : ty = 215 ∧ bb = b := by simpa using h5
    exact ⟨_, taLetApp _ _ W⟩
  | cond p d f a =>
    obtain ⟨_, _, b, h2, h1, h0, h3, h4, h5, h6⟩ := h
    obtain ⟨rfl, rfl⟩ : ty = 257 ∧ bb = b := by simpa using h5
    exact ⟨_, taIfApp _ _ W⟩
  | recr p g =>
    obtain ⟨_, _, b, h2, h1, h0, h7, h8, h3, h4, h5, h6⟩ := h
    obtain ⟨rfl, rfl⟩ : ty = 218 ∧ bb = b := by simpa using h5
    exact ⟨_, taRecApp _ _ W⟩
  | bnd x a g => simp [wfE] at hw
  | fin b => simp [wfE] at hw

set_option maxRecDepth 100000 in
set_option maxHeartbeats 4000000 in
theorem show_app (w0 : World) (lo hi : Nat) (p : Nat) (f a : Exp) (v : Value) (h : ExprAt w0 lo hi (.app p f a) [] [] v) (hw : wfE false (.app p f a) = true) (hl : (textE (.app p f a)).length ≤ 200000)
    (ihf : ∀ v, ExprAt w0 lo hi f [] [] v → ShowIH w0 f v) (iha : ∀ v, ExprAt w0 lo hi a [] [] v → ShowIH w0 a v) : ShowIH w0 (.app p f a) v := by
  intro w hkw
  obtain ⟨_, _, c, vf, va, h3, h4, rfl, h6, hf, ha⟩ := h
  simp only [wfE, Bool.and_eq_true] at hw
  obtain ⟨wf, wa⟩ := hw
  obtain ⟨tf, bf, rfl⟩ := hf.ifp wf
  obtain ⟨ta, ba, rfl⟩ := ha.ifp wa
  have cf : w0.cell? ⟨c, 1, none⟩ = some (ifp tf bf) := cell_of_block h6 1
  have ca : w0.cell? ⟨c, 2, none⟩ = some (ifp ta ba) := cell_of_block h6 2
  have l1 : (textE f).length ≤ (textE (.app p f a)).length := by
    simp only [textE, List.length_append]
    have : (textE f).length ≤ (if bareFun f = true then textE f else par (textE f)).length := by cases bareFun f <;> simp [par] <;> omega
    omega
  have l2 : (textE a).length ≤ (textE (.app p f a)).length := by
    simp only [textE, List.length_append]
    have : (textE a).length ≤ (if bareArg a = true then textE a else par (textE a)).length := by cases bareArg a <;> simp [par] <;> omega
    omega
  have HF := Lib.hid (ihf _ hf)
  have HAF := Lib.hid (atomt_any w0 lo hi f _ hf wf (by omega) (ihf _ hf))
  have HAA := Lib.hid (atomt_any w0 lo hi a _ ha wa (by omega) (iha _ ha))
  have HTA := Lib.hid (fun W => taApp hf wf W)
  have ck1 : w.cell? ⟨c, 1, none⟩ = some (ifp tf bf) := hkw.cellSome cf (by simp)
  have HL := Lib.hid hl
  have l3 : (textA a).length ≤ (textE a).length + 2 := by unfold textA; exact len_if _ _
  have l4 : (textA f).length ≤ (textE f).length + 2 := by unfold textA; exact len_if _ _
  clear ihf iha h3 h4 h6 hf ha wf wa hl

  have qName := taAppName (.pointer (some ⟨c, 0, none⟩)) 108 w
  have qNum := taAppNum (.pointer (some ⟨c, 0, none⟩)) 108 w
  have qFun := taAppFun (.pointer (some ⟨c, 0, none⟩)) 108 w
  have qPair := taAppPair (.pointer (some ⟨c, 0, none⟩)) 108 w
  have qLet := taAppLet (.pointer (some ⟨c, 0, none⟩)) 108 w
  have qIf := taAppIf (.pointer (some ⟨c, 0, none⟩)) 108 w
  have qRec := taAppRec (.pointer (some ⟨c, 0, none⟩)) 108 w
  have qApp := taAppApp (.pointer (some ⟨c, 0, none⟩)) 108 w
  go_enter Tryz.func76, Tryz.ntmps76
  go_wp2_with fail
  refine (HF.out w hkw).mono ?_
  rintro e w1 ⟨rfl, hz1⟩
  have hk1 := hkw.trans0 hz1
  obtain ⟨u, hta⟩ := HTA.out w1
  have ck2 : w1.cell? ⟨c, 1, none⟩ = some (ifp tf bf) := hk1.cellSome cf (by simp)
  cases hap : isApp f
  · rw [hap] at hta
    go_wp2_with fail
    refine (HAF.out w1 hk1).mono ?_
    rintro e w2 ⟨rfl, hz2⟩
    have hk2 := hk1.trans0 hz2
    have ck3 : w2.cell? ⟨c, 2, none⟩ = some (ifp ta ba) := hk2.cellSome ca (by simp)
    have s0 : ¬ 9223372036854775807 < (bs (textA f)).size + 1 := by have := HL.out; rw [bs_size]; omega
    have s1 : ¬ 9223372036854775807 < (bs (textA f)).size + 1 + (bs (textA a)).size := by have := HL.out; simp only [bs_size]; omega
    go_wp2_with fail
    refine (HAA.out w2 hk2).mono ?_
    rintro e w3 ⟨rfl, hk3⟩
    go_wp2
    go_ret
    refine ⟨congrArg (fun b => Ending.returned (.string b)) ?_, (hz1.trans0 hz2).trans0 hk3⟩
    apply ba_ext
    simp only [ByteArray.data_append, Array.toList_append, bs_data, textE, textA]
    cases f <;> first | rfl | cases hap
  · rw [hap] at hta
    have ck3 : w1.cell? ⟨c, 2, none⟩ = some (ifp ta ba) := hk1.cellSome ca (by simp)
    have s0 : ¬ 9223372036854775807 < (bs (textE f)).size + 1 := by have := HL.out; rw [bs_size]; omega
    have s1 : ¬ 9223372036854775807 < (bs (textE f)).size + 1 + (bs (textA a)).size := by have := HL.out; simp only [bs_size]; omega
    go_wp2_with fail
    refine (HAA.out w1 hk1).mono ?_
    rintro e w3 ⟨rfl, hk3⟩
    go_wp2
    go_ret
    refine ⟨congrArg (fun b => Ending.returned (.string b)) ?_, hz1.trans0 hk3⟩
    apply ba_ext
    simp only [ByteArray.data_append, Array.toList_append, bs_data, textE, textA]
    cases f <;> first | rfl | cases hap

end Go.Proofs.YtpbplpnifjbkoabGreatDoor

namespace Go.Proofs.YtpbplpnifjbkoabGreatDoor
open Go.RowKit

/-- A group's rows: name = body. -/
def gItems : Exp → List Bytes
  | .bnd x a g => (x ++ [32, 61, 32] ++ textE a) :: gItems g
  | _ => []
theorem gItems_length (g : Exp) : (gItems g).length = (gNames g).length := by
  induction g with
  | bnd x a g _ ih => simp [gItems, gNames, ih]
  | _ => rfl
theorem gBodies_length (g : Exp) : (gBodies g).length = (gNames g).length := by
  induction g with
  | bnd x a g _ ih => simp [gBodies, gNames, ih]
  | _ => rfl
theorem gItems_get (g : Exp) (j : Nat) (hj : j < (gNames g).length) : ∃ (h1 : j < (gItems g).length) (h2 : j < (gBodies g).length), (gItems g)[j] = (gNames g)[j] ++ [32, 61, 32] ++ textE (gBodies g)[j] := by
  induction g generalizing j with
  | bnd x a g _ ih =>
    cases j with
    | zero => exact ⟨by simp [gItems], by simp [gBodies], rfl⟩
    | succ j =>
      obtain ⟨h1, h2, h3⟩ := ih j (by simpa [gNames] using hj)
      exact ⟨by simpa [gItems] using h1, by simpa [gBodies] using h2, by simpa [gItems, gNames, gBodies] using h3⟩
  | _ => simp [gNames] at hj
theorem joinTail_text (g : Exp) (hw : wfE true g = true) (hf : isFin g = false) : [32, 97, 110, 100, 32] ++ textE g = Lib.joinTail [32, 97, 110, 100, 32] (gItems g) ++ [32, 105, 110, 32] ++ textE (gFor g) := by
  induction g with
  | bnd x a g _ ih =>
    simp only [wfE, Bool.and_eq_true] at hw
    cases hfg : isFin g
    · have h := ih hw.2 hfg
      simp only [textE, hfg, gItems, gFor, Lib.joinTail, List.map_cons, List.flatten_cons, Bool.false_eq_true, if_false] at h ⊢
      simp only [List.append_assoc] at h ⊢
      rw [h]
    · cases g <;> simp [isFin] at hfg
      simp [textE, isFin, gItems, gFor, Lib.joinTail]
  | fin b _ => simp [isFin] at hf
  | name _ _ => simp [wfE] at hw
  | num _ _ => simp [wfE] at hw
  | lam _ _ _ _ => simp [wfE] at hw
  | app _ _ _ _ _ => simp [wfE] at hw
  | pair _ _ _ _ _ => simp [wfE] at hw
  | letin _ _ _ _ _ _ => simp [wfE] at hw
  | recr _ _ _ => simp [wfE] at hw
  | cond _ _ _ _ _ _ _ => simp [wfE] at hw
theorem text_group (g : Exp) (hw : wfE true g = true) (hb : isBnd g = true) : textE g = Lib.join (gItems g) [32, 97, 110, 100, 32] ++ [32, 105, 110, 32] ++ textE (gFor g) := by
  cases g with
  | bnd x a g =>
    simp only [wfE, Bool.and_eq_true] at hw
    rw [gItems, Lib.join_cons]
    cases hfg : isFin g
    · have h := joinTail_text g hw.2 hfg
      simp only [textE, hfg, gFor, Bool.false_eq_true, if_false]
      simp only [List.append_assoc] at h ⊢
      rw [h]
    · cases g <;> simp [isFin] at hfg
      simp [textE, isFin, gItems, gFor, Lib.joinTail]
  | _ => simp [isBnd] at hb
theorem item_le (g : Exp) : ∀ x ∈ gItems g, x.length ≤ (textE g).length := by
  induction g with
  | bnd x a g _ ih =>
    intro y hy
    rcases List.mem_cons.1 hy with rfl | hy
    · simp only [textE, List.length_append]; omega
    · have := ih y hy; simp only [textE, List.length_append]; omega
  | _ => intro y hy; simp [gItems] at hy

set_option maxRecDepth 100000 in
set_option maxHeartbeats 4000000 in
theorem show_recr (w0 : World) (lo hi : Nat) (p : Nat) (g : Exp) (v : Value) (h : ExprAt w0 lo hi (.recr p g) [] [] v) (hw : wfE false (.recr p g) = true) (hl : (textE (.recr p g)).length ≤ 200000) (hfew : (gBodies g).length ≤ 65536)
    (ihb : ∀ a ∈ gBodies g, ∀ v, ExprAt w0 lo hi a [] [] v → ShowIH w0 a v) (ihf : ∀ v, ExprAt w0 lo hi (gFor g) [] [] v → ShowIH w0 (gFor g) v) : ShowIH w0 (.recr p g) v := by
  intro w hkw
  obtain ⟨_, _, c, ns, vs, sn, sl, vf, h3, h4, rfl, h6, hrn, hrl, hg⟩ := h
  simp only [wfE, Bool.and_eq_true] at hw
  obtain ⟨hall, hfor, rfl⟩ := group_at g hw.2 _ _ _ hg
  obtain ⟨wfb, wff⟩ := group_wf g hw.2
  obtain ⟨tf, bf, rfl⟩ := hfor.ifp wff
  have hlen := hall.length
  rw [gBodies_length] at hlen
  have hn0 : 0 < (gNames g).length := by
    have := hw.1
    cases g <;> simp [isBnd] at this
    simp [gNames]
  have hne : vs ≠ [] := by intro e; rw [e] at hlen; simp at hlen; omega
  have hne2 : ((gNames g).map fun x => Value.string (bs x)) ≠ [] := by intro e; have := congrArg List.length e; simp at this; rw [this] at hn0; simp at hn0
  obtain ⟨gl, cl, rfl, hcl⟩ := hrl.form hne
  obtain ⟨gn, cn, rfl, hcn⟩ := hrn.form hne2
  rw [hlen] at hcl h6
  rw [List.length_map] at hcn h6
  have htx := text_group g hw.2 hw.1
  have c1 : w.cell? ⟨c, 1, none⟩ = some (.slice (some ⟨gn, 0, none⟩) (gNames g).length cn) := hkw.cellSome (cell_of_block h6 1) (by simp)
  have HC2 := Lib.hid (show w.cell? ⟨c, 2, none⟩ = some (.slice (some ⟨gl, 0, none⟩) (gNames g).length cl) from hkw.cellSome (cell_of_block h6 2) (by simp))
  have HC3 := Lib.hid (show w.cell? ⟨c, 3, none⟩ = some (ifp tf bf) from hkw.cellSome (cell_of_block h6 3) (by simp))
  have HF := Lib.hid (ihf _ hfor)
  have HB := Lib.hid ihb
  have HALL := Lib.hid hall
  have HCL := Lib.hid hcl
  have HCN := Lib.hid hcn
  have HTX := Lib.hid htx
  have HL := Lib.hid hl
  have HWB := Lib.hid wfb
  have hfew' : (gNames g).length ≤ 65536 := by rw [← gBodies_length]; exact hfew
  have HLEN := Lib.hid hlen
  clear ihf ihb hall hcl hcn htx hl wfb wff hlen hne hne2 h3 h4 h6 hrn hrl hg hw hfor hfew
  have qName := taRecName (.pointer (some ⟨c, 0, none⟩)) 108 w
  have qNum := taRecNum (.pointer (some ⟨c, 0, none⟩)) 108 w
  have qFun := taRecFun (.pointer (some ⟨c, 0, none⟩)) 108 w
  have qPair := taRecPair (.pointer (some ⟨c, 0, none⟩)) 108 w
  have qLet := taRecLet (.pointer (some ⟨c, 0, none⟩)) 108 w
  have qIf := taRecIf (.pointer (some ⟨c, 0, none⟩)) 108 w
  have qRec := taRecRec (.pointer (some ⟨c, 0, none⟩)) 108 w
  go_enter Tryz.func76, Tryz.ntmps76
  go_wp2_with fail
  clear qName qNum qFun qPair qLet qIf qRec c1
  go_loopg [10, 117] (gNames g).length (fun gg l i wx => ∃ j : Nat, gg = (gNames g).length - j ∧ i = .int .i64 j ∧ j ≤ (gNames g).length ∧ Keeps [] w wx ∧ wx.ownsRow w.heap.size 9 1 l j (((gItems g).take j).map fun x => Value.string (bs x)))
  case atStart => exact ⟨0, rfl, rfl, by omega, Keeps.refl _ _, World.ownsRow_nil _ _ _ _⟩
  case round =>
    obtain ⟨j, hgj, rfl, hj, hk, hown⟩ := hrel
    have HG := Lib.hid hgj
    have HK := Lib.hid hk
    have HO := Lib.hid hown
    have hszj := hk.size
    have c2 := hk.cellSome HC2.out (by simp)
    have hb2 : c < wr.heap.size := lt_of_cell c2
    have hjb : j < 70000 := by omega
    clear hgj hk hown
    by_cases hlt : j < (gNames g).length
    · obtain ⟨h1, h2, hit⟩ := gItems_get g j hlt
      obtain ⟨vj, hvj, hex⟩ := HALL.out.get j h2
      obtain ⟨tj, bj, rfl⟩ := hex.ifp (HWB.out _ (List.getElem_mem _))
      have cl1 : wr.cell? ⟨gl, j, none⟩ = some (ifp tj bj) := HK.out.cellSome (hkw.cellSome ((HCL.out j hlt).trans hvj) (by simp)) (by simp)
      have cn1 : wr.cell? ⟨gn, j, none⟩ = some (.string (bs (gNames g)[j])) := HK.out.cellSome (hkw.cellSome ((HCN.out j hlt).trans (by rw [List.getElem?_map, List.getElem?_eq_getElem hlt]; rfl)) (by simp)) (by simp)
      have hdl : decide ((j : Int) < ((gNames g).length : Int)) = true := by simpa using hlt
      have HS := Lib.hid (HB.out _ (List.getElem_mem h2) _ hex wr (hkw.trans0 HK.out))
      have hil := item_le g _ (List.getElem_mem h1)
      rw [hit] at hil
      simp only [List.length_append, List.length_cons, List.length_nil] at hil
      have htl : (textE g).length ≤ 200000 := by have := HL.out; simp only [textE, List.length_append] at this; omega
      have s0 : ¬ 9223372036854775807 < (bs (gNames g)[j]).size + 3 := by rw [bs_size]; omega
      have s1 : ¬ 9223372036854775807 < (bs (gNames g)[j]).size + 3 + (bs (textE (gBodies g)[j])).size := by simp only [bs_size]; omega
      have HIT := Lib.hid hit
      clear hvj hex hit hil
      obtain ⟨ib, hib, hib0, hib1, hib2⟩ := info_parts infoStr
      go_wp2_with fail
      refine HS.out.mono ?_
      rintro e w2 ⟨rfl, hk2⟩
      have HK2 := Lib.hid hk2
      have hsz2 := hk2.size
      clear hk2
      go_wp2_with (at_builtin; go_must (refine wpList_append_lies _ rfl _ _ 27 rfl w.heap.size 9 ib (.string ⟨#[]⟩) 1 16 Tryz.underlying27 hib hib0 hib1 hib2 rfl (by decide) _ _ _ rfl ((ownsRow_keeps HO.out HK2.out (by simp)).alloc _) ⟨w2.heap.size, 0, none⟩ 1 1 [.string (bs (gNames g)[j] ++ ⟨#[32, 61, 32]⟩ ++ bs (textE (gBodies g)[j]))] rfl rfl ?c1 ?c2 (by decide) ?c3 ?c4 ?c5 _ rfl ?_))
      case c1 => exact cells_new w2 [.string (bs (gNames g)[j] ++ ⟨#[32, 61, 32]⟩ ++ bs (textE (gBodies g)[j]))] 9
      case c2 => intro u hu; simp at hu; subst hu; rfl
      case c3 => unfold maxLen; omega
      case c4 => omega
      case c5 => simp; omega
      intro gg2 cp w3 hown hgr hlg hlt3
      have hrow : ∀ k, u10.ownBlock = some k → w.heap.size ≤ k := fun k hk => (HO.out.lt k hk).1
      have HK3 := Lib.hid (Keeps.grown ((HK.out.trans0 HK2.out).alloc (.cells #[.string (bs (gNames g)[j] ++ ⟨#[32, 61, 32]⟩ ++ bs (textE (gBodies g)[j]))] 9)) hgr (fun k hk => Or.inr (hrow k hk)))
      have HO3 := Lib.hid hown
      clear hown hgr hlg hlt3 hib hib0 hib1 hib2 hrow
      go_wp2_with fail
      go_roundg ((gNames g).length - (j + 1))
      case measure => have := HG.out; omega
      case rel =>
        refine ⟨j + 1, rfl, by go_num, by omega, HK3.out, ?_⟩
        rw [List.take_succ_eq_append_getElem h1, List.map_append, HIT.out]
        have he : bs ((gNames g)[j] ++ [32, 61, 32] ++ textE (gBodies g)[j]) = bs (gNames g)[j] ++ ⟨#[32, 61, 32]⟩ ++ bs (textE (gBodies g)[j]) := by
          apply ba_ext
          simp only [ByteArray.data_append, Array.toList_append, bs_data]
        rw [show List.map (fun x => Value.string (bs x)) [(gNames g)[j] ++ [32, 61, 32] ++ textE (gBodies g)[j]] = [.string (bs ((gNames g)[j] ++ [32, 61, 32] ++ textE (gBodies g)[j]))] from rfl, he, List.map_take]
        exact HO3.out
    · have hdl : decide ((j : Int) < ((gNames g).length : Int)) = false := by simpa using hlt
      obtain rfl : j = (gNames g).length := by omega
      obtain ⟨gj, cj, rfl, hgj1, hgj2⟩ := HO.out.form hn0
      have hxs : ((gItems g).map bs).length = (gNames g).length := by rw [List.length_map, gItems_length]
      have hO := HO.out
      rw [List.take_of_length_le (by rw [gItems_length]; exact Nat.le_refl _)] at hO
      have hcap : (gNames g).length ≤ cj := by
        rcases hO.2 with ⟨e, _⟩ | ⟨g', cap', cur, e, h2, h3, h4, _⟩
        · simp at e
        · simp only [Value.slice.injEq] at e
          omega
      have HO2 := Lib.hid hO
      have htl : (textE g).length ≤ 200000 := by have := HL.out; simp only [textE, List.length_append] at this; omega
      have hjl : (Lib.join (gItems g) [32, 97, 110, 100, 32]).length ≤ (textE g).length := by rw [HTX.out]; simp only [List.length_append]; omega
      have hfl : (textE (gFor g)).length ≤ (textE g).length := by rw [HTX.out]; simp only [List.length_append]; omega
      have hJ : ∀ W, W.ownsRow w.heap.size 9 1 (.slice (some ⟨gj, 0, none⟩) (gNames g).length cj) (gNames g).length ((gItems g).map fun x => Value.string (bs x)) →
          Calls Tryz.prog 120 #[.slice (some ⟨gj, 0, none⟩) (gNames g).length cj, .string ⟨#[32, 97, 110, 100, 32]⟩] W fun e W' => e = .returned (.string (bs (Lib.join (gItems g) [32, 97, 110, 100, 32]))) ∧ Keeps [] W W' := by
        intro W hW
        have hl := (hW.lt gj rfl).2
        have hmap : (((gItems g).map bs).map fun x => x.data.toList) = gItems g := by
          rw [List.map_map]
          conv => rhs; rw [← List.map_id (gItems g)]
          exact List.map_congr_left (fun x _ => bs_data x)
        have hj := Tryz.strings_Join gj 0 cj ((gItems g).map bs) ⟨#[32, 97, 110, 100, 32]⟩ W (fun j x hx => by
            rw [Nat.zero_add, hW.cellAt j (by
              have : j < ((gItems g).map bs).length := by
                rcases Nat.lt_or_ge j ((gItems g).map bs).length with h | h
                · exact h
                · rw [List.getElem?_eq_none h] at hx; cases hx
              omega)]
            rw [List.getElem?_map] at hx ⊢
            cases hq : (gItems g)[j]? with
            | none => rw [hq] at hx; cases hx
            | some y => rw [hq] at hx; cases hx; rfl) hl (by omega) (by omega) (by rw [hmap]; show (Lib.join (gItems g) [32, 97, 110, 100, 32]).length ≤ _; omega)
        rw [hxs, hmap] at hj
        exact hj.mono fun e W' ⟨he, hb⟩ => ⟨he, Keeps.of_below hb⟩
      have HJ := Lib.hid hJ
      have s0 : ¬ 9223372036854775807 < 8 + (bs (Lib.join (gItems g) [32, 97, 110, 100, 32])).size := by rw [bs_size]; omega
      have s1 : ¬ 9223372036854775807 < 8 + (bs (Lib.join (gItems g) [32, 97, 110, 100, 32])).size + 4 := by rw [bs_size]; omega
      have s2 : ¬ 9223372036854775807 < 8 + (bs (Lib.join (gItems g) [32, 97, 110, 100, 32])).size + 4 + (bs (textE (gFor g))).size := by simp only [bs_size]; omega
      clear hO hJ HO hxs hgj1 hgj2 hcap c2 hb2 hdl hlt
      go_wp2_with fail
      have hk0 : Keeps [] w wr.drew := HK.out.drew
      go_region_held3 (fun W => W.cell? ⟨c, 3, none⟩ = some (ifp tf bf) ∧ W.ownsRow w.heap.size 9 1 (.slice (some ⟨gj, 0, none⟩) (gNames g).length cj) (gNames g).length ((gItems g).map fun x => Value.string (bs x)) ∧ Keeps [] w W)
        (first | exact ⟨hk0.cellSome HC3.out (by simp), HO2.out, hk0⟩ | exact ⟨hka.cellSome HC3.out (by simp), hoa, hka⟩ | exact ⟨hkb.cellSome HC3.out (by simp), hob, hkb⟩)
        (first
          | (go_at_call 120; refine (HJ.out _ ?_).mono ?_; (first | exact HO2.out | assumption); rintro e Wa ⟨rfl, hz⟩; have hka := Keeps.trans0 (show Keeps [] w _ by first | exact hk0 | assumption) hz; have hoa := ownsRow_keeps (show World.ownsRow _ w.heap.size 9 1 (.slice (some ⟨gj, 0, none⟩) (gNames g).length cj) (gNames g).length ((gItems g).map fun x => Value.string (bs x)) by first | exact HO2.out | assumption) hz (by simp); clear hz)
          | (go_at_call 76; refine (HF.out _ (hkw.trans0 ?_)).mono ?_; (first | exact hk0 | assumption); rintro e Wb ⟨rfl, hz⟩; have hkb := Keeps.trans0 (show Keeps [] w _ by first | exact hk0 | assumption) hz; have hob := ownsRow_keeps (show World.ownsRow _ w.heap.size 9 1 (.slice (some ⟨gj, 0, none⟩) (gNames g).length cj) (gNames g).length ((gItems g).map fun x => Value.string (bs x)) by first | exact HO2.out | assumption) hz (by simp); clear hz))
      all_goals
        go_wp2
        go_ret
        refine ⟨congrArg (fun b => Ending.returned (.string b)) ?_, by assumption⟩
        apply ba_ext
        simp only [ByteArray.data_append, Array.toList_append, bs_data, textE]
        rw [HTX.out]
        simp only [List.append_assoc]

/-- ast.Show, whole. -/
theorem show_any (w0 : World) (lo hi : Nat) : ∀ n x, esz x ≤ n → n ≤ 65536 → wfE false x = true → (textE x).length ≤ 200000 → ∀ v, ExprAt w0 lo hi x [] [] v → ShowIH w0 x v := by
  intro n
  induction n with
  | zero => intro x hx; have := esz_pos x; omega
  | succ n ih =>
    intro x hx hn hw hl v h
    have hk : ∀ a ∈ kids x, (textE a).length ≤ (textE x).length → ∀ v, ExprAt w0 lo hi a [] [] v → ShowIH w0 a v := fun a ha hla v hv =>
      ih a (by have := esz_kids ha; omega) (by omega) (wfE_kids hw ha) (by omega) v hv
    have hif : ∀ (b : Bool) (l : Bytes), l.length ≤ (if b = true then l else par l).length := by intro b l; cases b <;> simp [par] <;> omega
    cases x with
    | name p s => exact show_name w0 lo hi p s v h
    | num p s => exact show_num w0 lo hi p s v h
    | lam p x b => exact show_lam w0 lo hi p x b v h hw hl (hk b (by simp [kids]) (by simp [textE]; omega))
    | app p f a => exact show_app w0 lo hi p f a v h hw hl (hk f (by simp [kids]) (by have := hif (bareFun f) (textE f); simp only [textE, List.length_append]; omega)) (hk a (by simp [kids]) (by have := hif (bareArg a) (textE a); simp only [textE, List.length_append]; omega))
    | pair p f a => exact show_pair w0 lo hi p f a v h hw hl (hk f (by simp [kids]) (by simp [textE]; omega)) (hk a (by simp [kids]) (by simp [textE]; omega))
    | letin p x f a => exact show_letin w0 lo hi p x f a v h hw hl (hk f (by simp [kids]) (by simp [textE]; omega)) (hk a (by simp [kids]) (by simp [textE]; omega))
    | cond p d f a => exact show_cond w0 lo hi p d f a v h hw hl (hk d (by simp [kids]) (by simp [textE]; omega)) (hk f (by simp [kids]) (by simp [textE]; omega)) (hk a (by simp [kids]) (by simp [textE]; omega))
    | recr p g =>
      have hw' := hw
      simp only [wfE, Bool.and_eq_true] at hw'
      have htx := text_group g hw'.2 hw'.1
      refine show_recr w0 lo hi p g v h hw hl (by have := (esz_group g).2.2; simp only [esz] at hx; omega) (fun a ha => hk a (by simp [kids, ha]) ?_) (hk (gFor g) (by simp [kids]) (by simp only [textE]; rw [htx]; simp; omega))
      obtain ⟨j, hj, rfl⟩ := List.getElem_of_mem ha
      obtain ⟨h1, h2, h3⟩ := gItems_get g j (by rw [← gBodies_length]; exact hj)
      have := item_le g _ (List.getElem_mem h1)
      rw [h3] at this
      simp only [textE, List.length_append] at this ⊢
      omega
    | bnd x a g => simp [wfE] at hw
    | fin b => simp [wfE] at hw
end Go.Proofs.YtpbplpnifjbkoabGreatDoor

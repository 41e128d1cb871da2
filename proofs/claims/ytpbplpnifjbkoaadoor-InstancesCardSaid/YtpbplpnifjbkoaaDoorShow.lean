/-
  ast.Show, by contracts: all but a let rec and an application. Printed by gen_show.py.
-/
import Derived.Test.YtpbplpnifjbkoaaDoorReadx
import Derived.Test.YtpbplpnifjbkoaaDoorShelf
import Derived.Deep.RegionHeld3
namespace Go.Proofs.YtpbplpnifjbkoaaDoor
open Go.RowKit

/-- The contract: in whatever world that keeps the one in which the expression lies. -/
def ShowIH (w : World) (x : Exp) (v : Value) : Prop := ∀ W, Keeps [] w W → Calls Tryd.prog 45 #[v] W fun e W' => e = .returned (.string (bs (textE x))) ∧ Keeps [] W W'


set_option maxRecDepth 100000 in
set_option maxHeartbeats 4000000 in
theorem show_lam (w0 : World) (lo hi : Nat) (p : Nat) (x : Bytes) (b : Exp) (v : Value) (h : ExprAt w0 lo hi (.lam p x b) [] [] v) (hw : wfE false (.lam p x b) = true) (hl : (textE (.lam p x b)).length ≤ 200000)
    (ihb : ∀ v, ExprAt w0 lo hi b [] [] v → ShowIH w0 b v) : ShowIH w0 (.lam p x b) v := by
  intro w hkw
  obtain ⟨_, _, c, vb, h3, h4, rfl, h6, hb⟩ := h
  obtain ⟨tb, bb, rfl⟩ := hb.ifp hw
  have cx : w.cell? ⟨c, 1, none⟩ = some (.string (bs x)) := hkw.cellSome (cell_of_block h6 1) (by simp)
  have cb : w.cell? ⟨c, 2, none⟩ = some (ifp tb bb) := hkw.cellSome (cell_of_block h6 2) (by simp)
  have Hb := Lib.hid (ihb _ hb)
  simp only [textE, List.length_append, List.length_cons, List.length_nil] at hl
  have s0 : ¬ 9223372036854775807 < 4 + (bs x).size := by simp only [bs_size]; omega
  have s1 : ¬ 9223372036854775807 < 4 + (bs x).size + 4 := by simp only [bs_size]; omega
  have s2 : ¬ 9223372036854775807 < 4 + (bs x).size + 4 + (bs (textE b)).size := by simp only [bs_size]; omega
  have hres : (⟨#[102, 117, 110, 32]⟩ : ByteArray) ++ bs x ++ ⟨#[32, 45, 62, 32]⟩ ++ bs (textE b) = bs (textE (.lam p x b)) := by
    apply ba_ext
    simp only [ByteArray.data_append, Array.toList_append, bs_data, textE]
  have HRES := Lib.hid hres
  clear ihb h3 h4 h6 hb hw hl hres
  have qName := taFunName (.pointer (some ⟨c, 0, none⟩)) 110 w
  have qNum := taFunNum (.pointer (some ⟨c, 0, none⟩)) 110 w
  have qFun := taFunFun (.pointer (some ⟨c, 0, none⟩)) 110 w
  go_enter Tryd.func45, Tryd.ntmps45
  go_wp2_with fail
  clear qName qNum qFun
  go_region_held3 (fun W => W.cell? ⟨c, 1, none⟩ = some (.string (bs x)) ∧ W.cell? ⟨c, 2, none⟩ = some (ifp tb bb) ∧ Keeps [] w W)
    (first | exact ⟨(Keeps.refl [] w).drew.cellSome cx (by simp), (Keeps.refl [] w).drew.cellSome cb (by simp), (Keeps.refl [] w).drew⟩ | exact ⟨hkb.cellSome cx (by simp), hkb.cellSome cb (by simp), hkb⟩)
    (first | (go_at_call_of 45 (ifp tb bb); refine (Hb.out _ (hkw.trans0 ?_)).mono ?_; (first | exact (Keeps.refl [] w).drew | assumption); rintro e Wb ⟨rfl, hzb⟩; have hkb := Keeps.trans0 (show Keeps [] w _ by first | exact (Keeps.refl [] w).drew | assumption) hzb; clear hzb))
  all_goals
    go_wp2
    go_ret
    exact ⟨congrArg (fun b => Ending.returned (.string b)) HRES.out, by assumption⟩

set_option maxRecDepth 100000 in
set_option maxHeartbeats 4000000 in
theorem show_pair (w0 : World) (lo hi : Nat) (p : Nat) (f a : Exp) (v : Value) (h : ExprAt w0 lo hi (.pair p f a) [] [] v) (hw : wfE false (.pair p f a) = true) (hl : (textE (.pair p f a)).length ≤ 200000)
    (ihf : ∀ v, ExprAt w0 lo hi f [] [] v → ShowIH w0 f v) (iha : ∀ v, ExprAt w0 lo hi a [] [] v → ShowIH w0 a v) : ShowIH w0 (.pair p f a) v := by
  intro w hkw
  obtain ⟨_, _, c, vf, va, h3, h4, rfl, h6, hf, ha⟩ := h
  simp only [wfE, Bool.and_eq_true] at hw
  obtain ⟨wf, wa⟩ := hw
  obtain ⟨tf, bf, rfl⟩ := hf.ifp wf
  obtain ⟨ta, ba, rfl⟩ := ha.ifp wa
  have cf : w.cell? ⟨c, 1, none⟩ = some (ifp tf bf) := hkw.cellSome (cell_of_block h6 1) (by simp)
  have ca : w.cell? ⟨c, 2, none⟩ = some (ifp ta ba) := hkw.cellSome (cell_of_block h6 2) (by simp)
  have Hf := Lib.hid (ihf _ hf)
  have Ha := Lib.hid (iha _ ha)
  simp only [textE, List.length_append, List.length_cons, List.length_nil] at hl
  have s0 : ¬ 9223372036854775807 < 1 + (bs (textE f)).size := by simp only [bs_size]; omega
  have s1 : ¬ 9223372036854775807 < 1 + (bs (textE f)).size + 2 := by simp only [bs_size]; omega
  have s2 : ¬ 9223372036854775807 < 1 + (bs (textE f)).size + 2 + (bs (textE a)).size := by simp only [bs_size]; omega
  have s3 : ¬ 9223372036854775807 < 1 + (bs (textE f)).size + 2 + (bs (textE a)).size + 1 := by simp only [bs_size]; omega
  have hres : (⟨#[40]⟩ : ByteArray) ++ bs (textE f) ++ ⟨#[44, 32]⟩ ++ bs (textE a) ++ ⟨#[41]⟩ = bs (textE (.pair p f a)) := by
    apply ba_ext
    simp only [ByteArray.data_append, Array.toList_append, bs_data, textE]
  have HRES := Lib.hid hres
  clear ihf iha h3 h4 h6 hf ha wf wa hl hres
  have qName := taPairName (.pointer (some ⟨c, 0, none⟩)) 110 w
  have qNum := taPairNum (.pointer (some ⟨c, 0, none⟩)) 110 w
  have qFun := taPairFun (.pointer (some ⟨c, 0, none⟩)) 110 w
  have qPair := taPairPair (.pointer (some ⟨c, 0, none⟩)) 110 w
  go_enter Tryd.func45, Tryd.ntmps45
  go_wp2_with fail
  clear qName qNum qFun qPair
  go_region_held3 (fun W => W.cell? ⟨c, 1, none⟩ = some (ifp tf bf) ∧ W.cell? ⟨c, 2, none⟩ = some (ifp ta ba) ∧ Keeps [] w W)
    (first | exact ⟨(Keeps.refl [] w).drew.cellSome cf (by simp), (Keeps.refl [] w).drew.cellSome ca (by simp), (Keeps.refl [] w).drew⟩ | exact ⟨hka.cellSome cf (by simp), hka.cellSome ca (by simp), hka⟩ | exact ⟨hkf.cellSome cf (by simp), hkf.cellSome ca (by simp), hkf⟩)
    (first | (go_at_call_of 45 (ifp tf bf); refine (Hf.out _ (hkw.trans0 ?_)).mono ?_; (first | exact (Keeps.refl [] w).drew | assumption); rintro e Wf ⟨rfl, hzf⟩; have hkf := Keeps.trans0 (show Keeps [] w _ by first | exact (Keeps.refl [] w).drew | assumption) hzf; clear hzf) | (go_at_call_of 45 (ifp ta ba); refine (Ha.out _ (hkw.trans0 ?_)).mono ?_; (first | exact (Keeps.refl [] w).drew | assumption); rintro e Wa ⟨rfl, hza⟩; have hka := Keeps.trans0 (show Keeps [] w _ by first | exact (Keeps.refl [] w).drew | assumption) hza; clear hza))
  all_goals
    go_wp2
    go_ret
    exact ⟨congrArg (fun b => Ending.returned (.string b)) HRES.out, by assumption⟩

set_option maxRecDepth 100000 in
set_option maxHeartbeats 4000000 in
theorem show_letin (w0 : World) (lo hi : Nat) (p : Nat) (x : Bytes) (f a : Exp) (v : Value) (h : ExprAt w0 lo hi (.letin p x f a) [] [] v) (hw : wfE false (.letin p x f a) = true) (hl : (textE (.letin p x f a)).length ≤ 200000)
    (ihf : ∀ v, ExprAt w0 lo hi f [] [] v → ShowIH w0 f v) (iha : ∀ v, ExprAt w0 lo hi a [] [] v → ShowIH w0 a v) : ShowIH w0 (.letin p x f a) v := by
  intro w hkw
  obtain ⟨_, _, c, vf, va, h3, h4, rfl, h6, hf, ha⟩ := h
  simp only [wfE, Bool.and_eq_true] at hw
  obtain ⟨wf, wa⟩ := hw
  obtain ⟨tf, bf, rfl⟩ := hf.ifp wf
  obtain ⟨ta, ba, rfl⟩ := ha.ifp wa
  have cx : w.cell? ⟨c, 1, none⟩ = some (.string (bs x)) := hkw.cellSome (cell_of_block h6 1) (by simp)
  have cf : w.cell? ⟨c, 2, none⟩ = some (ifp tf bf) := hkw.cellSome (cell_of_block h6 2) (by simp)
  have ca : w.cell? ⟨c, 3, none⟩ = some (ifp ta ba) := hkw.cellSome (cell_of_block h6 3) (by simp)
  have Hf := Lib.hid (ihf _ hf)
  have Ha := Lib.hid (iha _ ha)
  simp only [textE, List.length_append, List.length_cons, List.length_nil] at hl
  have s0 : ¬ 9223372036854775807 < 4 + (bs x).size := by simp only [bs_size]; omega
  have s1 : ¬ 9223372036854775807 < 4 + (bs x).size + 3 := by simp only [bs_size]; omega
  have s2 : ¬ 9223372036854775807 < 4 + (bs x).size + 3 + (bs (textE f)).size := by simp only [bs_size]; omega
  have s3 : ¬ 9223372036854775807 < 4 + (bs x).size + 3 + (bs (textE f)).size + 4 := by simp only [bs_size]; omega
  have s4 : ¬ 9223372036854775807 < 4 + (bs x).size + 3 + (bs (textE f)).size + 4 + (bs (textE a)).size := by simp only [bs_size]; omega
  have hres : (⟨#[108, 101, 116, 32]⟩ : ByteArray) ++ bs x ++ ⟨#[32, 61, 32]⟩ ++ bs (textE f) ++ ⟨#[32, 105, 110, 32]⟩ ++ bs (textE a) = bs (textE (.letin p x f a)) := by
    apply ba_ext
    simp only [ByteArray.data_append, Array.toList_append, bs_data, textE]
  have HRES := Lib.hid hres
  clear ihf iha h3 h4 h6 hf ha wf wa hl hres
  have qName := taLetName (.pointer (some ⟨c, 0, none⟩)) 110 w
  have qNum := taLetNum (.pointer (some ⟨c, 0, none⟩)) 110 w
  have qFun := taLetFun (.pointer (some ⟨c, 0, none⟩)) 110 w
  have qPair := taLetPair (.pointer (some ⟨c, 0, none⟩)) 110 w
  have qLet := taLetLet (.pointer (some ⟨c, 0, none⟩)) 110 w
  go_enter Tryd.func45, Tryd.ntmps45
  go_wp2_with fail
  clear qName qNum qFun qPair qLet
  go_region_held3 (fun W => W.cell? ⟨c, 1, none⟩ = some (.string (bs x)) ∧ W.cell? ⟨c, 2, none⟩ = some (ifp tf bf) ∧ W.cell? ⟨c, 3, none⟩ = some (ifp ta ba) ∧ Keeps [] w W)
    (first | exact ⟨(Keeps.refl [] w).drew.cellSome cx (by simp), (Keeps.refl [] w).drew.cellSome cf (by simp), (Keeps.refl [] w).drew.cellSome ca (by simp), (Keeps.refl [] w).drew⟩ | exact ⟨hka.cellSome cx (by simp), hka.cellSome cf (by simp), hka.cellSome ca (by simp), hka⟩ | exact ⟨hkf.cellSome cx (by simp), hkf.cellSome cf (by simp), hkf.cellSome ca (by simp), hkf⟩)
    (first | (go_at_call_of 45 (ifp tf bf); refine (Hf.out _ (hkw.trans0 ?_)).mono ?_; (first | exact (Keeps.refl [] w).drew | assumption); rintro e Wf ⟨rfl, hzf⟩; have hkf := Keeps.trans0 (show Keeps [] w _ by first | exact (Keeps.refl [] w).drew | assumption) hzf; clear hzf) | (go_at_call_of 45 (ifp ta ba); refine (Ha.out _ (hkw.trans0 ?_)).mono ?_; (first | exact (Keeps.refl [] w).drew | assumption); rintro e Wa ⟨rfl, hza⟩; have hka := Keeps.trans0 (show Keeps [] w _ by first | exact (Keeps.refl [] w).drew | assumption) hza; clear hza))
  all_goals
    go_wp2
    go_ret
    exact ⟨congrArg (fun b => Ending.returned (.string b)) HRES.out, by assumption⟩

set_option maxRecDepth 100000 in
set_option maxHeartbeats 4000000 in
theorem show_cond (w0 : World) (lo hi : Nat) (p : Nat) (d f a : Exp) (v : Value) (h : ExprAt w0 lo hi (.cond p d f a) [] [] v) (hw : wfE false (.cond p d f a) = true) (hl : (textE (.cond p d f a)).length ≤ 200000)
    (ihd : ∀ v, ExprAt w0 lo hi d [] [] v → ShowIH w0 d v) (ihf : ∀ v, ExprAt w0 lo hi f [] [] v → ShowIH w0 f v) (iha : ∀ v, ExprAt w0 lo hi a [] [] v → ShowIH w0 a v) : ShowIH w0 (.cond p d f a) v := by
  intro w hkw
  obtain ⟨_, _, c, vd, vf, va, h3, h4, rfl, h6, hd, hf, ha⟩ := h
  simp only [wfE, Bool.and_eq_true] at hw
  obtain ⟨⟨wd, wf⟩, wa⟩ := hw
  obtain ⟨td, bd, rfl⟩ := hd.ifp wd
  obtain ⟨tf, bf, rfl⟩ := hf.ifp wf
  obtain ⟨ta, ba, rfl⟩ := ha.ifp wa
  have cd : w.cell? ⟨c, 1, none⟩ = some (ifp td bd) := hkw.cellSome (cell_of_block h6 1) (by simp)
  have cf : w.cell? ⟨c, 2, none⟩ = some (ifp tf bf) := hkw.cellSome (cell_of_block h6 2) (by simp)
  have ca : w.cell? ⟨c, 3, none⟩ = some (ifp ta ba) := hkw.cellSome (cell_of_block h6 3) (by simp)
  have Hd := Lib.hid (ihd _ hd)
  have Hf := Lib.hid (ihf _ hf)
  have Ha := Lib.hid (iha _ ha)
  simp only [textE, List.length_append, List.length_cons, List.length_nil] at hl
  have s0 : ¬ 9223372036854775807 < 3 + (bs (textE d)).size := by simp only [bs_size]; omega
  have s1 : ¬ 9223372036854775807 < 3 + (bs (textE d)).size + 6 := by simp only [bs_size]; omega
  have s2 : ¬ 9223372036854775807 < 3 + (bs (textE d)).size + 6 + (bs (textE f)).size := by simp only [bs_size]; omega
  have s3 : ¬ 9223372036854775807 < 3 + (bs (textE d)).size + 6 + (bs (textE f)).size + 6 := by simp only [bs_size]; omega
  have s4 : ¬ 9223372036854775807 < 3 + (bs (textE d)).size + 6 + (bs (textE f)).size + 6 + (bs (textE a)).size := by simp only [bs_size]; omega
  have hres : (⟨#[105, 102, 32]⟩ : ByteArray) ++ bs (textE d) ++ ⟨#[32, 116, 104, 101, 110, 32]⟩ ++ bs (textE f) ++ ⟨#[32, 101, 108, 115, 101, 32]⟩ ++ bs (textE a) = bs (textE (.cond p d f a)) := by
    apply ba_ext
    simp only [ByteArray.data_append, Array.toList_append, bs_data, textE]
  have HRES := Lib.hid hres
  clear ihd ihf iha h3 h4 h6 hd hf ha wd wf wa hl hres
  have qName := taIfName (.pointer (some ⟨c, 0, none⟩)) 110 w
  have qNum := taIfNum (.pointer (some ⟨c, 0, none⟩)) 110 w
  have qFun := taIfFun (.pointer (some ⟨c, 0, none⟩)) 110 w
  have qPair := taIfPair (.pointer (some ⟨c, 0, none⟩)) 110 w
  have qLet := taIfLet (.pointer (some ⟨c, 0, none⟩)) 110 w
  have qIf := taIfIf (.pointer (some ⟨c, 0, none⟩)) 110 w
  go_enter Tryd.func45, Tryd.ntmps45
  go_wp2_with fail
  clear qName qNum qFun qPair qLet qIf
  go_region_held3 (fun W => W.cell? ⟨c, 1, none⟩ = some (ifp td bd) ∧ W.cell? ⟨c, 2, none⟩ = some (ifp tf bf) ∧ W.cell? ⟨c, 3, none⟩ = some (ifp ta ba) ∧ Keeps [] w W)
    (first | exact ⟨(Keeps.refl [] w).drew.cellSome cd (by simp), (Keeps.refl [] w).drew.cellSome cf (by simp), (Keeps.refl [] w).drew.cellSome ca (by simp), (Keeps.refl [] w).drew⟩ | exact ⟨hka.cellSome cd (by simp), hka.cellSome cf (by simp), hka.cellSome ca (by simp), hka⟩ | exact ⟨hkf.cellSome cd (by simp), hkf.cellSome cf (by simp), hkf.cellSome ca (by simp), hkf⟩ | exact ⟨hkd.cellSome cd (by simp), hkd.cellSome cf (by simp), hkd.cellSome ca (by simp), hkd⟩)
    (first | (go_at_call_of 45 (ifp td bd); refine (Hd.out _ (hkw.trans0 ?_)).mono ?_; (first | exact (Keeps.refl [] w).drew | assumption); rintro e Wd ⟨rfl, hzd⟩; have hkd := Keeps.trans0 (show Keeps [] w _ by first | exact (Keeps.refl [] w).drew | assumption) hzd; clear hzd) | (go_at_call_of 45 (ifp tf bf); refine (Hf.out _ (hkw.trans0 ?_)).mono ?_; (first | exact (Keeps.refl [] w).drew | assumption); rintro e Wf ⟨rfl, hzf⟩; have hkf := Keeps.trans0 (show Keeps [] w _ by first | exact (Keeps.refl [] w).drew | assumption) hzf; clear hzf) | (go_at_call_of 45 (ifp ta ba); refine (Ha.out _ (hkw.trans0 ?_)).mono ?_; (first | exact (Keeps.refl [] w).drew | assumption); rintro e Wa ⟨rfl, hza⟩; have hka := Keeps.trans0 (show Keeps [] w _ by first | exact (Keeps.refl [] w).drew | assumption) hza; clear hza))
  all_goals
    go_wp2
    go_ret
    exact ⟨congrArg (fun b => Ending.returned (.string b)) HRES.out, by assumption⟩

set_option maxRecDepth 100000 in
theorem show_name (w0 : World) (lo hi p : Nat) (s : Bytes) (v : Value) (h : ExprAt w0 lo hi (.name p s) [] [] v) : ShowIH w0 (.name p s) v := by
  intro w hkw
  obtain ⟨_, _, c, h3, h4, rfl, h6⟩ := h
  have cs : w.cell? ⟨c, 1, none⟩ = some (.string (bs s)) := hkw.cellSome (cell_of_block h6 1) (by simp)
  clear h3 h4 h6
  have qName := taNameName (.pointer (some ⟨c, 0, none⟩)) 110 w
  go_enter Tryd.func45, Tryd.ntmps45
  go_wp2
  go_ret
  exact ⟨rfl, Keeps.refl [] w⟩

set_option maxRecDepth 100000 in
theorem show_num (w0 : World) (lo hi p : Nat) (s : Bytes) (v : Value) (h : ExprAt w0 lo hi (.num p s) [] [] v) : ShowIH w0 (.num p s) v := by
  intro w hkw
  obtain ⟨_, _, c, h3, h4, rfl, h6⟩ := h
  have cs : w.cell? ⟨c, 1, none⟩ = some (.string (bs s)) := hkw.cellSome (cell_of_block h6 1) (by simp)
  clear h3 h4 h6
  have qName := taNumName (.pointer (some ⟨c, 0, none⟩)) 110 w
  have qNum := taNumNum (.pointer (some ⟨c, 0, none⟩)) 110 w
  go_enter Tryd.func45, Tryd.ntmps45
  go_wp2
  go_ret
  exact ⟨rfl, Keeps.refl [] w⟩

end Go.Proofs.YtpbplpnifjbkoaaDoor

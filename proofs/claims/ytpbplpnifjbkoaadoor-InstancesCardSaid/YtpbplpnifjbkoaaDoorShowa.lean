/-
  ast.atom, by contracts; ast.Show of an application. Printed by gen_show.py.
-/
import Derived.Test.YtpbplpnifjbkoaaDoorShow
namespace Go.Proofs.YtpbplpnifjbkoaaDoor
open Go.RowKit

/-- What atom gives. -/
def textA (x : Exp) : Bytes := if bareArg x then textE x else par (textE x)
def AtomTextIH (w : World) (x : Exp) (v : Value) : Prop := ∀ W, Keeps [] w W → Calls Tryd.prog 74 #[v] W fun e W' => e = .returned (.string (bs (textA x))) ∧ Keeps [] W W'

set_option maxRecDepth 100000 in
theorem atomt_name (w0 : World) (lo hi : Nat) (p : Nat) (s : Bytes) (v : Value) (h : ExprAt w0 lo hi (.name p s) [] [] v) (hl : (textE (.name p s)).length ≤ 200000) (ih : ShowIH w0 (.name p s) v) : AtomTextIH w0 (.name p s) v := by
  intro w hkw
  have HS := Lib.hid (ih w hkw)
  obtain ⟨_, _, b, h3, h4, rfl, h6⟩ := h
  have qName := taNameName (.pointer (some ⟨b, 0, none⟩)) 110 w
  have qNum := taNameNum (.pointer (some ⟨b, 0, none⟩)) 110 w
  have qPair := taNamePair (.pointer (some ⟨b, 0, none⟩)) 110 w
  have s0 : ¬ 9223372036854775807 < 1 + (bs (textE (.name p s))).size := by rw [bs_size]; omega
  have s1 : ¬ 9223372036854775807 < 1 + (bs (textE (.name p s))).size + 1 := by rw [bs_size]; omega
  clear ih h3 h4 h6 hl
  go_enter Tryd.func74, Tryd.ntmps74
  go_wp2_with fail
  refine HS.out.mono ?_
  rintro e w1 ⟨rfl, hk⟩
  go_wp2
  go_ret
  exact ⟨rfl, hk⟩
  
  
  

set_option maxRecDepth 100000 in
theorem atomt_num (w0 : World) (lo hi : Nat) (p : Nat) (s : Bytes) (v : Value) (h : ExprAt w0 lo hi (.num p s) [] [] v) (hl : (textE (.num p s)).length ≤ 200000) (ih : ShowIH w0 (.num p s) v) : AtomTextIH w0 (.num p s) v := by
  intro w hkw
  have HS := Lib.hid (ih w hkw)
  obtain ⟨_, _, b, h3, h4, rfl, h6⟩ := h
  have qName := taNumName (.pointer (some ⟨b, 0, none⟩)) 110 w
  have qNum := taNumNum (.pointer (some ⟨b, 0, none⟩)) 110 w
  have qPair := taNumPair (.pointer (some ⟨b, 0, none⟩)) 110 w
  have s0 : ¬ 9223372036854775807 < 1 + (bs (textE (.num p s))).size := by rw [bs_size]; omega
  have s1 : ¬ 9223372036854775807 < 1 + (bs (textE (.num p s))).size + 1 := by rw [bs_size]; omega
  clear ih h3 h4 h6 hl
  go_enter Tryd.func74, Tryd.ntmps74
  go_wp2_with fail
  refine HS.out.mono ?_
  rintro e w1 ⟨rfl, hk⟩
  go_wp2
  go_ret
  exact ⟨rfl, hk⟩
  
  
  

set_option maxRecDepth 100000 in
theorem atomt_lam (w0 : World) (lo hi : Nat) (p : Nat) (x : Bytes) (e : Exp) (v : Value) (h : ExprAt w0 lo hi (.lam p x e) [] [] v) (hl : (textE (.lam p x e)).length ≤ 200000) (ih : ShowIH w0 (.lam p x e) v) : AtomTextIH w0 (.lam p x e) v := by
  intro w hkw
  have HS := Lib.hid (ih w hkw)
  obtain ⟨_, _, b, h2, h3, h4, rfl, h6⟩ := h
  have qName := taFunName (.pointer (some ⟨b, 0, none⟩)) 110 w
  have qNum := taFunNum (.pointer (some ⟨b, 0, none⟩)) 110 w
  have qPair := taFunPair (.pointer (some ⟨b, 0, none⟩)) 110 w
  have s0 : ¬ 9223372036854775807 < 1 + (bs (textE (.lam p x e))).size := by rw [bs_size]; omega
  have s1 : ¬ 9223372036854775807 < 1 + (bs (textE (.lam p x e))).size + 1 := by rw [bs_size]; omega
  clear ih h3 h4 h6 hl
  go_enter Tryd.func74, Tryd.ntmps74
  go_wp2_with fail
  refine HS.out.mono ?_
  rintro e w1 ⟨rfl, hk⟩
  go_wp2
  go_ret
  refine ⟨congrArg (fun b => Ending.returned (.string b)) ?_, hk⟩
  apply ba_ext
  simp only [ByteArray.data_append, Array.toList_append, bs_data, textA, bareArg, par]
  rfl

set_option maxRecDepth 100000 in
theorem atomt_app (w0 : World) (lo hi : Nat) (p : Nat) (f a : Exp) (v : Value) (h : ExprAt w0 lo hi (.app p f a) [] [] v) (hl : (textE (.app p f a)).length ≤ 200000) (ih : ShowIH w0 (.app p f a) v) : AtomTextIH w0 (.app p f a) v := by
  intro w hkw
  have HS := Lib.hid (ih w hkw)
  obtain ⟨_, _, b, h2, h1, h3, h4, rfl, h6⟩ := h
  have qName := taAppName (.pointer (some ⟨b, 0, none⟩)) 110 w
  have qNum := taAppNum (.pointer (some ⟨b, 0, none⟩)) 110 w
  have qPair := taAppPair (.pointer (some ⟨b, 0, none⟩)) 110 w
  have s0 : ¬ 9223372036854775807 < 1 + (bs (textE (.app p f a))).size := by rw [bs_size]; omega
  have s1 : ¬ 9223372036854775807 < 1 + (bs (textE (.app p f a))).size + 1 := by rw [bs_size]; omega
  clear ih h3 h4 h6 hl
  go_enter Tryd.func74, Tryd.ntmps74
  go_wp2_with fail
  refine HS.out.mono ?_
  rintro e w1 ⟨rfl, hk⟩
  go_wp2
  go_ret
  refine ⟨congrArg (fun b => Ending.returned (.string b)) ?_, hk⟩
  apply ba_ext
  simp only [ByteArray.data_append, Array.toList_append, bs_data, textA, bareArg, par]
  rfl

set_option maxRecDepth 100000 in
theorem atomt_pair (w0 : World) (lo hi : Nat) (p : Nat) (f a : Exp) (v : Value) (h : ExprAt w0 lo hi (.pair p f a) [] [] v) (hl : (textE (.pair p f a)).length ≤ 200000) (ih : ShowIH w0 (.pair p f a) v) : AtomTextIH w0 (.pair p f a) v := by
  intro w hkw
  have HS := Lib.hid (ih w hkw)
  obtain ⟨_, _, b, h2, h1, h3, h4, rfl, h6⟩ := h
  have qName := taPairName (.pointer (some ⟨b, 0, none⟩)) 110 w
  have qNum := taPairNum (.pointer (some ⟨b, 0, none⟩)) 110 w
  have qPair := taPairPair (.pointer (some ⟨b, 0, none⟩)) 110 w
  have s0 : ¬ 9223372036854775807 < 1 + (bs (textE (.pair p f a))).size := by rw [bs_size]; omega
  have s1 : ¬ 9223372036854775807 < 1 + (bs (textE (.pair p f a))).size + 1 := by rw [bs_size]; omega
  clear ih h3 h4 h6 hl
  go_enter Tryd.func74, Tryd.ntmps74
  go_wp2_with fail
  refine HS.out.mono ?_
  rintro e w1 ⟨rfl, hk⟩
  go_wp2
  go_ret
  exact ⟨rfl, hk⟩
  
  
  

set_option maxRecDepth 100000 in
theorem atomt_letin (w0 : World) (lo hi : Nat) (p : Nat) (x : Bytes) (f a : Exp) (v : Value) (h : ExprAt w0 lo hi (.letin p x f a) [] [] v) (hl : (textE (.letin p x f a)).length ≤ 200000) (ih : ShowIH w0 (.letin p x f a) v) : AtomTextIH w0 (.letin p x f a) v := by
  intro w hkw
  have HS := Lib.hid (ih w hkw)
  obtain ⟨_, _, b, h2, h1, h3, h4, rfl, h6⟩ := h
  have qName := taLetName (.pointer (some ⟨b, 0, none⟩)) 110 w
  have qNum := taLetNum (.pointer (some ⟨b, 0, none⟩)) 110 w
  have qPair := taLetPair (.pointer (some ⟨b, 0, none⟩)) 110 w
  have s0 : ¬ 9223372036854775807 < 1 + (bs (textE (.letin p x f a))).size := by rw [bs_size]; omega
  have s1 : ¬ 9223372036854775807 < 1 + (bs (textE (.letin p x f a))).size + 1 := by rw [bs_size]; omega
  clear ih h3 h4 h6 hl
  go_enter Tryd.func74, Tryd.ntmps74
  go_wp2_with fail
  refine HS.out.mono ?_
  rintro e w1 ⟨rfl, hk⟩
  go_wp2
  go_ret
  refine ⟨congrArg (fun b => Ending.returned (.string b)) ?_, hk⟩
  apply ba_ext
  simp only [ByteArray.data_append, Array.toList_append, bs_data, textA, bareArg, par]
  rfl

set_option maxRecDepth 100000 in
theorem atomt_cond (w0 : World) (lo hi : Nat) (p : Nat) (d f a : Exp) (v : Value) (h : ExprAt w0 lo hi (.cond p d f a) [] [] v) (hl : (textE (.cond p d f a)).length ≤ 200000) (ih : ShowIH w0 (.cond p d f a) v) : AtomTextIH w0 (.cond p d f a) v := by
  intro w hkw
  have HS := Lib.hid (ih w hkw)
  obtain ⟨_, _, b, h2, h1, h0, h3, h4, rfl, h6⟩ := h
  have qName := taIfName (.pointer (some ⟨b, 0, none⟩)) 110 w
  have qNum := taIfNum (.pointer (some ⟨b, 0, none⟩)) 110 w
  have qPair := taIfPair (.pointer (some ⟨b, 0, none⟩)) 110 w
  have s0 : ¬ 9223372036854775807 < 1 + (bs (textE (.cond p d f a))).size := by rw [bs_size]; omega
  have s1 : ¬ 9223372036854775807 < 1 + (bs (textE (.cond p d f a))).size + 1 := by rw [bs_size]; omega
  clear ih h3 h4 h6 hl
  go_enter Tryd.func74, Tryd.ntmps74
  go_wp2_with fail
  refine HS.out.mono ?_
  rintro e w1 ⟨rfl, hk⟩
  go_wp2
  go_ret
  refine ⟨congrArg (fun b => Ending.returned (.string b)) ?_, hk⟩
  apply ba_ext
  simp only [ByteArray.data_append, Array.toList_append, bs_data, textA, bareArg, par]
  rfl

set_option maxRecDepth 100000 in
theorem atomt_recr (w0 : World) (lo hi : Nat) (p : Nat) (g : Exp) (v : Value) (h : ExprAt w0 lo hi (.recr p g) [] [] v) (hl : (textE (.recr p g)).length ≤ 200000) (ih : ShowIH w0 (.recr p g) v) : AtomTextIH w0 (.recr p g) v := by
  intro w hkw
  have HS := Lib.hid (ih w hkw)
  obtain ⟨_, _, b, h2, h1, h0, h7, h8, h3, h4, rfl, h6⟩ := h
  have qName := taRecName (.pointer (some ⟨b, 0, none⟩)) 110 w
  have qNum := taRecNum (.pointer (some ⟨b, 0, none⟩)) 110 w
  have qPair := taRecPair (.pointer (some ⟨b, 0, none⟩)) 110 w
  have s0 : ¬ 9223372036854775807 < 1 + (bs (textE (.recr p g))).size := by rw [bs_size]; omega
  have s1 : ¬ 9223372036854775807 < 1 + (bs (textE (.recr p g))).size + 1 := by rw [bs_size]; omega
  clear ih h3 h4 h6 hl
  go_enter Tryd.func74, Tryd.ntmps74
  go_wp2_with fail
  refine HS.out.mono ?_
  rintro e w1 ⟨rfl, hk⟩
  go_wp2
  go_ret
  refine ⟨congrArg (fun b => Ending.returned (.string b)) ?_, hk⟩
  apply ba_ext
  simp only [ByteArray.data_append, Array.toList_append, bs_data, textA, bareArg, par]
  rfl

theorem atomt_any (w0 : World) (lo hi : Nat) (x : Exp) (v : Value) (h : ExprAt w0 lo hi x [] [] v) (hw : wfE false x = true) (hl : (textE x).length ≤ 200000) (ih : ShowIH w0 x v) : AtomTextIH w0 x v := by
  cases x with
  | name p s => exact atomt_name w0 lo hi p s v h hl ih
  | num p s => exact atomt_num w0 lo hi p s v h hl ih
  | lam p x e => exact atomt_lam w0 lo hi p x e v h hl ih
  | app p f a => exact atomt_app w0 lo hi p f a v h hl ih
  | pair p f a => exact atomt_pair w0 lo hi p f a v h hl ih
  | letin p x f a => exact atomt_letin w0 lo hi p x f a v h hl ih
  | cond p d f a => exact atomt_cond w0 lo hi p d f a v h hl ih
  | recr p g => exact atomt_recr w0 lo hi p g v h hl ih
  | bnd x a g => simp [wfE] at hw
  | fin b => simp [wfE] at hw

def isApp : Exp → Bool
  | .app _ _ _ => true
  | _ => false
theorem taApp {w0 : World} {lo hi : Nat} {x : Exp} {ty bb : Nat} (h : ExprAt w0 lo hi x [] [] (ifp ty bb)) (hw : wfE false x = true) (W : World) :
    ∃ u, (Instr.typeAssert (ifp ty bb) 110 197 true).run Tryd.prog W = .ok (.tuple #[.pointer u, .bool (isApp x)]) W := by
  cases x with

  | name p s =>
    obtain ⟨_, _, b, h3, h4, h5, h6⟩ := h
    obtain ⟨rfl, rfl⟩ : ty = 173 ∧ bb = b := by simpa using h5
    exact ⟨_, taNameApp _ _ W⟩
  | num p s =>
    obtain ⟨_, _, b, h3, h4, h5, h6⟩ := h
    obtain ⟨rfl, rfl⟩ : ty = 177 ∧ bb = b := by simpa using h5
    exact ⟨_, taNumApp _ _ W⟩
  | lam p x e =>
    obtain ⟨_, _, b, h2, h3, h4, h5, h6⟩ := h
    obtain ⟨rfl, rfl⟩ : ty = 180 ∧ bb = b := by simpa using h5
    exact ⟨_, taFunApp _ _ W⟩
  | app p f a =>
    obtain ⟨_, _, b, h2, h1, h3, h4, h5, h6⟩ := h
    obtain ⟨rfl, rfl⟩ : ty = 197 ∧ bb = b := by simpa using h5
    exact ⟨_, taAppApp _ _ W⟩
  | pair p f a =>
    obtain ⟨_, _, b, h2, h1, h3, h4, h5, h6⟩ := h
    obtain ⟨rfl, rfl⟩ : ty = 183 ∧ bb = b := by simpa using h5
    exact ⟨_, taPairApp _ _ W⟩
  | letin p x f a =>
    obtain ⟨_, _, b, h2, h1, h3, h4, h5, h6⟩ := h
    obtain ⟨rfl, rfl⟩ : ty = 186 ∧ bb = b := by simpa using h5
    exact ⟨_, taLetApp _ _ W⟩
  | cond p d f a =>
    obtain ⟨_, _, b, h2, h1, h0, h3, h4, h5, h6⟩ := h
    obtain ⟨rfl, rfl⟩ : ty = 189 ∧ bb = b := by simpa using h5
    exact ⟨_, taIfApp _ _ W⟩
  | recr p g =>
    obtain ⟨_, _, b, h2, h1, h0, h7, h8, h3, h4, h5, h6⟩ := h
    obtain ⟨rfl, rfl⟩ : ty = 192 ∧ bb = b := by simpa using h5
    exact ⟨_, taRecApp _ _ W⟩
  | bnd x a g => simp [wfE] at hw
  | fin b => simp [wfE] at hw

set_option maxRecDepth 100000 in
set_option maxHeartbeats 4000000 in
theorem show_app (w0 : World) (lo hi : Nat) (p : Nat) (f a : Exp) (v : Value) (h : ExprAt w0 lo hi (.app p f a) [] [] v) (hw : wfE false (.app p f a) = true) (hl : (textE (.app p f a)).length ≤ 200000)
    (ihf : ∀ v, ExprAt w0 lo hi f [] [] v → ShowIH w0 f v) (iha : ∀ v, ExprAt w0 lo hi a [] [] v → ShowIH w0 a v) : ShowIH w0 (.app p f a) v := by
  intro w hkw
  obtain ⟨_, _, c, vf, va, h3, h4, rfl, h6, hf, ha⟩ := h
  simp only [wfE, Bool.and_eq_true] at hw
  obtain ⟨wf, wa⟩ := hw
  obtain ⟨tf, bf, rfl⟩ := hf.ifp wf
  obtain ⟨ta, ba, rfl⟩ := ha.ifp wa
  have cf : w0.cell? ⟨c, 1, none⟩ = some (ifp tf bf) := cell_of_block h6 1
  have ca : w0.cell? ⟨c, 2, none⟩ = some (ifp ta ba) := cell_of_block h6 2
  have l1 : (textE f).length ≤ (textE (.app p f a)).length := by
    simp only [textE, List.length_append]
    have : (textE f).length ≤ (if bareFun f = true then textE f else par (textE f)).length := by cases bareFun f <;> simp [par] <;> omega
    omega
  have l2 : (textE a).length ≤ (textE (.app p f a)).length := by
    simp only [textE, List.length_append]
    have : (textE a).length ≤ (if bareArg a = true then textE a else par (textE a)).length := by cases bareArg a <;> simp [par] <;> omega
    omega
  have HF := Lib.hid (ihf _ hf)
  have HAF := Lib.hid (atomt_any w0 lo hi f _ hf wf (by omega) (ihf _ hf))
  have HAA := Lib.hid (atomt_any w0 lo hi a _ ha wa (by omega) (iha _ ha))
  have HTA := Lib.hid (fun W => taApp hf wf W)
  have ck1 : w.cell? ⟨c, 1, none⟩ = some (ifp tf bf) := hkw.cellSome cf (by simp)
  have HL := Lib.hid hl
  have l3 : (textA a).length ≤ (textE a).length + 2 := by unfold textA; exact len_if _ _
  have l4 : (textA f).length ≤ (textE f).length + 2 := by unfold textA; exact len_if _ _
  clear ihf iha h3 h4 h6 hf ha wf wa hl

  have qName := taAppName (.pointer (some ⟨c, 0, none⟩)) 110 w
  have qNum := taAppNum (.pointer (some ⟨c, 0, none⟩)) 110 w
  have qFun := taAppFun (.pointer (some ⟨c, 0, none⟩)) 110 w
  have qPair := taAppPair (.pointer (some ⟨c, 0, none⟩)) 110 w
  have qLet := taAppLet (.pointer (some ⟨c, 0, none⟩)) 110 w
  have qIf := taAppIf (.pointer (some ⟨c, 0, none⟩)) 110 w
  have qRec := taAppRec (.pointer (some ⟨c, 0, none⟩)) 110 w
  have qApp := taAppApp (.pointer (some ⟨c, 0, none⟩)) 110 w
  go_enter Tryd.func45, Tryd.ntmps45
  go_wp2_with fail
  refine (HF.out w hkw).mono ?_
  rintro e w1 ⟨rfl, hz1⟩
  have hk1 := hkw.trans0 hz1
  obtain ⟨u, hta⟩ := HTA.out w1
  have ck2 : w1.cell? ⟨c, 1, none⟩ = some (ifp tf bf) := hk1.cellSome cf (by simp)
  cases hap : isApp f
  · rw [hap] at hta
    go_wp2_with fail
    refine (HAF.out w1 hk1).mono ?_
    rintro e w2 ⟨rfl, hz2⟩
    have hk2 := hk1.trans0 hz2
    have ck3 : w2.cell? ⟨c, 2, none⟩ = some (ifp ta ba) := hk2.cellSome ca (by simp)
    have s0 : ¬ 9223372036854775807 < (bs (textA f)).size + 1 := by have := HL.out; rw [bs_size]; omega
    have s1 : ¬ 9223372036854775807 < (bs (textA f)).size + 1 + (bs (textA a)).size := by have := HL.out; simp only [bs_size]; omega
    go_wp2_with fail
    refine (HAA.out w2 hk2).mono ?_
    rintro e w3 ⟨rfl, hk3⟩
    go_wp2
    go_ret
    refine ⟨congrArg (fun b => Ending.returned (.string b)) ?_, (hz1.trans0 hz2).trans0 hk3⟩
    apply ba_ext
    simp only [ByteArray.data_append, Array.toList_append, bs_data, textE, textA]
    cases f <;> first | rfl | cases hap
  · rw [hap] at hta
    have ck3 : w1.cell? ⟨c, 2, none⟩ = some (ifp ta ba) := hk1.cellSome ca (by simp)
    have s0 : ¬ 9223372036854775807 < (bs (textE f)).size + 1 := by have := HL.out; rw [bs_size]; omega
    have s1 : ¬ 9223372036854775807 < (bs (textE f)).size + 1 + (bs (textA a)).size := by have := HL.out; simp only [bs_size]; omega
    go_wp2_with fail
    refine (HAA.out w1 hk1).mono ?_
    rintro e w3 ⟨rfl, hk3⟩
    go_wp2
    go_ret
    refine ⟨congrArg (fun b => Ending.returned (.string b)) ?_, hz1.trans0 hk3⟩
    apply ba_ext
    simp only [ByteArray.data_append, Array.toList_append, bs_data, textE, textA]
    cases f <;> first | rfl | cases hap

end Go.Proofs.YtpbplpnifjbkoaaDoor

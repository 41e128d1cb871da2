/-
  The document's deep, by contract.
-/
import Derived.Test.YtpbplpnifjbkoaaDoorRref
import Derived.Test.YtpbplpnifjbkoaaDoorPaRec
import Derived.Deep.LoopGhost
namespace Go.Proofs.YtpbplpnifjbkoaaDoor
open Go.RowKit

/-- What stands right below an expression, in order. -/
def rkids : Exp → List Exp
  | .name _ _ => []
  | .num _ _ => []
  | .lam _ _ b => [b]
  | .app _ f a => [f, a]
  | .pair _ a b => [a, b]
  | .letin _ _ a b => [a, b]
  | .cond _ c a b => [c, a, b]
  | .recr _ g => rkids g
  | .bnd _ a g => a :: rkids g
  | .fin b => [b]
/-- Their values. -/
def RKidsAt (w : World) (lo hi : Nat) : List Exp → List Value → Prop
  | [], vs => vs = []
  | e :: r, vs => ∃ v vs', vs = v :: vs' ∧ RExpAt w lo hi e [] [] v ∧ RKidsAt w lo hi r vs'
theorem rkids_group {w : World} {lo hi : Nat} (g : Exp) : ∀ ns vs v, wfE true g = true → RExpAt w lo hi g ns vs v → RKidsAt w lo hi (rkids g) (vs ++ [v]) := by
  induction g with
  | bnd x a g iha ihg =>
    intro ns vs v hw h
    obtain ⟨ns', va, vs', rfl, rfl, h3, h4⟩ := h
    simp only [wfE, Bool.and_eq_true] at hw
    exact ⟨va, vs' ++ [v], rfl, h3, ihg _ _ _ hw.2 h4⟩
  | fin e ih => intro ns vs v hw h; obtain ⟨rfl, rfl, h3⟩ := h; exact ⟨v, [], rfl, h3, rfl⟩
  | _ => intro ns vs v hw h; simp [wfE] at hw
theorem rnode_kids {w : World} {lo hi : Nat} {x : Exp} {v : Value} (hw : wfE false x = true) (h : RExpAt w lo hi x [] [] v) : ∃ op ns vs q, Node w lo hi op ns vs q v ∧ RKidsAt w lo hi (rkids x) vs := by
  cases x with
  | name p s => exact ⟨_, _, _, _, h.2.2, rfl⟩
  | num p s => exact ⟨_, _, _, _, h.2.2, rfl⟩
  | lam p x e => obtain ⟨_, _, va, h, h1⟩ := h; exact ⟨_, _, _, _, h, va, _, rfl, h1, rfl⟩
  | app p f a => obtain ⟨_, _, vf, va, _, h, h1, h2⟩ := h; exact ⟨_, _, _, _, h, vf, _, rfl, h1, va, _, rfl, h2, rfl⟩
  | pair p f a => obtain ⟨_, _, vf, va, h, h1, h2⟩ := h; exact ⟨_, _, _, _, h, vf, _, rfl, h1, va, _, rfl, h2, rfl⟩
  | letin p x f a => obtain ⟨_, _, vf, va, h, h1, h2⟩ := h; exact ⟨_, _, _, _, h, vf, _, rfl, h1, va, _, rfl, h2, rfl⟩
  | cond p c f a => obtain ⟨_, _, vc, vf, va, h, h1, h2, h3⟩ := h; exact ⟨_, _, _, _, h, vc, _, rfl, h1, vf, _, rfl, h2, va, _, rfl, h3, rfl⟩
  | recr p g =>
    obtain ⟨_, _, ns', vs', vf, h, h1⟩ := h
    simp only [wfE, Bool.and_eq_true] at hw
    exact ⟨_, _, _, _, h, rkids_group g _ _ _ hw.2 h1⟩
  | bnd x a g => simp [wfE] at hw
  | fin e => simp [wfE] at hw
theorem RKidsAt.len {w : World} {lo hi : Nat} {es : List Exp} {vs : List Value} (h : RKidsAt w lo hi es vs) : vs.length = es.length := by
  induction es generalizing vs with
  | nil => rw [show vs = [] from h]; rfl
  | cons e r ih => obtain ⟨v, vs', rfl, _, h⟩ := h; simp [ih h]
theorem RKidsAt.get {w : World} {lo hi : Nat} {es : List Exp} {vs : List Value} (h : RKidsAt w lo hi es vs) (j : Nat) (hj : j < es.length) : ∃ v, vs[j]? = some v ∧ RExpAt w lo hi es[j] [] [] v := by
  induction es generalizing vs j with
  | nil => simp at hj
  | cons e r ih =>
    obtain ⟨v, vs', rfl, h1, h2⟩ := h
    cases j with
    | zero => exact ⟨v, rfl, h1⟩
    | succ j => exact ih h2 j (by simpa using hj)
theorem rdepth_le (x : Exp) : depth x ≤ esz x := by
  induction x <;> simp only [depth, esz] <;> omega
def maxd (l : List Exp) : Nat := l.foldl (fun n e => max n (depth e)) 0
theorem rfoldl_max (l : List Exp) (n : Nat) : l.foldl (fun n e => max n (depth e)) n = max n (maxd l) := by
  unfold maxd
  induction l generalizing n with
  | nil => simp
  | cons e r ih => simp only [List.foldl_cons]; rw [ih, ih (max 0 (depth e))]; omega
theorem maxd_cons (e : Exp) (l : List Exp) : maxd (e :: l) = max (depth e) (maxd l) := by
  unfold maxd; simp only [List.foldl_cons]; rw [rfoldl_max]; unfold maxd; omega
theorem rmaxd_group (g : Exp) : wfE true g = true → depth g = maxd (rkids g) := by
  induction g with
  | bnd x a g iha ihg => intro hw; simp only [wfE, Bool.and_eq_true] at hw; simp only [depth, rkids]; rw [maxd_cons, ihg hw.2]
  | fin e ih => intro _; simp [depth, rkids, maxd]
  | _ => intro hw; simp [wfE] at hw
theorem rdepth_kids {x : Exp} (hw : wfE false x = true) : depth x = maxd (rkids x) + 1 := by
  cases x with
  | recr p g => simp only [wfE, Bool.and_eq_true] at hw; simp only [depth, rkids]; rw [rmaxd_group g hw.2]
  | bnd x a g => simp [wfE] at hw
  | fin e => simp [wfE] at hw
  | name p s => rfl
  | num p s => rfl
  | lam p x e => simp [depth, rkids, maxd]
  | app p f a => simp [depth, rkids, maxd]
  | pair p f a => simp [depth, rkids, maxd]
  | letin p x f a => simp [depth, rkids, maxd]
  | cond p c f a => simp [depth, rkids, maxd]
theorem maxd_take (l : List Exp) (j : Nat) (hj : j < l.length) : maxd (l.take (j + 1)) = max (maxd (l.take j)) (depth l[j]) := by
  unfold maxd
  rw [List.take_succ_eq_append_getElem hj, List.foldl_append]
  rfl
theorem rkids_group_small (g : Exp) : wfE true g = true → ∀ e ∈ rkids g, esz e < esz g ∧ wfE false e = true := by
  induction g with
  | bnd x a g iha ihg =>
    intro hw e he
    simp only [wfE, Bool.and_eq_true] at hw
    rcases List.mem_cons.1 he with rfl | he
    · exact ⟨by simp only [esz]; omega, hw.1⟩
    · obtain ⟨h1, h2⟩ := ihg hw.2 e he; exact ⟨by simp only [esz]; omega, h2⟩
  | fin e ih => intro hw e' he; simp [rkids] at he; subst he; exact ⟨by simp only [esz]; omega, hw⟩
  | _ => intro hw; simp [wfE] at hw
theorem rkids_small {x : Exp} (hw : wfE false x = true) : ∀ e ∈ rkids x, esz e < esz x ∧ wfE false e = true := by
  intro e he
  cases x with
  | recr p g => simp only [wfE, Bool.and_eq_true] at hw; obtain ⟨h1, h2⟩ := rkids_group_small g hw.2 e he; exact ⟨by simp only [esz]; omega, h2⟩
  | bnd x a g => simp [wfE] at hw
  | fin e => simp [wfE] at hw
  | name p s => simp [rkids] at he
  | num p s => simp [rkids] at he
  | lam p x b => simp [rkids] at he; subst he; exact ⟨by simp only [esz]; omega, hw⟩
  | app p f a => simp only [wfE, Bool.and_eq_true] at hw; simp [rkids] at he; rcases he with rfl | rfl <;> exact ⟨by simp only [esz]; omega, by simp [hw]⟩
  | pair p f a => simp only [wfE, Bool.and_eq_true] at hw; simp [rkids] at he; rcases he with rfl | rfl <;> exact ⟨by simp only [esz]; omega, by simp [hw]⟩
  | letin p x f a => simp only [wfE, Bool.and_eq_true] at hw; simp [rkids] at he; rcases he with rfl | rfl <;> exact ⟨by simp only [esz]; omega, by simp [hw]⟩
  | cond p c f a => simp only [wfE, Bool.and_eq_true] at hw; simp [rkids] at he; rcases he with rfl | rfl | rfl <;> exact ⟨by simp only [esz]; omega, by simp [hw]⟩
theorem rkids_few {x : Exp} : ∀ e ∈ rkids x, True := fun _ _ => trivial
theorem rkids_len (x : Exp) : (rkids x).length ≤ esz x := by
  induction x with
  | name p s => simp [rkids]
  | num p s => simp [rkids]
  | lam p x b => simp [rkids, esz]
  | app p f a ihf iha => simp [rkids, esz]; have : ∀ e, 1 ≤ esz e := (by intro e; cases e <;> simp [esz]); have := this f; omega
  | pair p f a ihf iha => simp [rkids, esz]; have : ∀ e, 1 ≤ esz e := (by intro e; cases e <;> simp [esz]); have := this f; omega
  | letin p x f a ihf iha => simp [rkids, esz]; have : ∀ e, 1 ≤ esz e := (by intro e; cases e <;> simp [esz]); have := this f; omega
  | cond p c f a ihc ihf iha => simp [rkids, esz]; have : ∀ e, 1 ≤ esz e := (by intro e; cases e <;> simp [esz]); have h1 := this f; have h2 := this c; omega
  | recr p g ih => simp only [rkids, esz]; omega
  | bnd x a g iha ihg => simp only [rkids, esz, List.length_cons]; have : ∀ e, 1 ≤ esz e := (by intro e; cases e <;> simp [esz]); have := this a; omega
  | fin e ih => simp [rkids, esz]
/-- A row's value, and where its elements lie. -/
theorem RowAt.shape {w : World} {lo hi : Nat} {E : TypeId} {v : Value} {xs : List Value} (h : RowAt w lo hi E v xs) :
    ∃ ad cap, v = .slice ad xs.length cap ∧ ∀ j, j < xs.length → ∃ g, ad = some ⟨g, 0, none⟩ ∧ w.cell? ⟨g, j, none⟩ = xs[j]? := by
  rcases h with ⟨rfl, rfl⟩ | ⟨g, cap, cur, rfl, h1, h2, h3, h4, h5, h6, h7⟩
  · exact ⟨none, 0, rfl, fun j hj => by simp at hj⟩
  · refine ⟨_, cap, rfl, fun j hj => ⟨g, rfl, ?_⟩⟩
    rw [cell_of_block h3 j, ← h7]
    have : j < cur.size := by omega
    simp [hj, this]

theorem RExpAt.ptr {w : World} {lo hi : Nat} {x : Exp} {v : Value} (hw : wfE false x = true) (h : RExpAt w lo hi x [] [] v) : ∃ b : Nat, v = .pointer (some ⟨b, 0, none⟩) := by
  obtain ⟨_, _, _, _, ⟨b, _, _, _, _, h, _⟩, _⟩ := rnode_kids hw h
  exact ⟨b, h⟩

set_option maxRecDepth 100000 in
set_option maxHeartbeats 2000000 in
theorem rdeep_any (m : Nat) : ∀ x, esz x ≤ m → m ≤ 65536 → wfE false x = true → ∀ (w0 : World) (lo hi : Nat) (v : Value), RExpAt w0 lo hi x [] [] v → ∀ w, Keeps [] w0 w →
    Calls Tryd.prog 27 #[v] w fun e w' => e = .returned (.int .i64 (depth x : Nat)) ∧ Keeps [] w w' := by
  induction m with
  | zero => intro x hx; exfalso; revert hx; cases x <;> simp [esz]
  | succ m ih =>
    intro x hx hm hw w0 lo hi v h w hkw
    obtain ⟨op, ns, vs, q, hnode, hkids⟩ := rnode_kids hw h
    obtain ⟨b, sn, sl, hb1, hb2, rfl, hb, hrn, hrl⟩ := hnode
    obtain ⟨ad, cap, rfl, hcell⟩ := hrl.shape
    have hlen := hkids.len
    have hfew := rkids_len x
    have cl : w.cell? ⟨b, 2, none⟩ = some (.slice ad vs.length cap) := hkw.cellSome (cell_of_block hb 2) (by simp)
    have HX := Lib.hid hx
    have HW := Lib.hid hw
    have HIH := Lib.hid ih
    have HKI := Lib.hid hkids
    have HCE := Lib.hid hcell
    have HKW := Lib.hid hkw
    have HLEN := Lib.hid hlen
    have HB := Lib.hid hb
    clear hx hw ih hkids hcell hkw h hrn hrl hlen hb
    go_enter Tryd.func27, Tryd.ntmps27
    go_wp2_with fail
    go_loopg [3, 12] vs.length (fun gg v3 v12 wx => ∃ j : Nat, gg = vs.length - j ∧ v12 = .int .i64 j ∧ j ≤ vs.length ∧ v3 = .int .i64 (maxd ((rkids x).take j) : Nat) ∧ Keeps [] w wx)
    case atStart => exact ⟨0, rfl, rfl, Nat.zero_le _, rfl, Keeps.refl _ _⟩
    case round =>
      obtain ⟨j, hgj, rfl, hj, rfl, hk⟩ := hrel
      have HGJ := Lib.hid hgj
      have HK := Lib.hid hk
      clear hgj hk cl
      by_cases hlt : j < vs.length
      · have hdl : decide ((j : Int) < (vs.length : Int)) = true := by simpa using hlt
        have hj2 : j < (rkids x).length := by have := HLEN.out; omega
        obtain ⟨g, rfl, hc⟩ := HCE.out j hlt
        obtain ⟨u, hu, hku⟩ := HKI.out.get j hj2
        obtain ⟨hsm, hwk⟩ := rkids_small HW.out _ (List.getElem_mem hj2)
        rw [hu] at hc
        have hcx : wr.cell? ⟨g, j, none⟩ = some u := (HKW.out.trans0 HK.out).cellSome hc (by simp)
        obtain ⟨ub, rfl⟩ := hku.ptr hwk
        have hb2 : esz x ≤ m + 1 := HX.out
        have hd := HIH.out (rkids x)[j] (by omega) (by omega) hwk w0 lo hi _ hku wr (HKW.out.trans0 HK.out)
        have HD := Lib.hid hd
        have hmt := maxd_take (rkids x) j hj2
        have HMT := Lib.hid hmt
        have hjb : j < 65536 := by omega
        clear hd hmt hc hu hku hsm hwk
        go_wp2_with fail
        refine HD.out.mono ?_
        rintro e w2 ⟨rfl, hk⟩
        have HK2 := Lib.hid (HK.out.trans0 hk)
        clear hk hcx
        obtain ⟨d, hd⟩ : ∃ d, d = depth (rkids x)[j] := ⟨_, rfl⟩
        have HD2 := Lib.hid hd
        rw [← hd]
        clear hd HD
        by_cases hgt : maxd ((rkids x).take j) < d
        · have hgt' : ((maxd ((rkids x).take j) : Nat) : Int) < (d : Int) := by omega
          go_wp2_with fail
          go_roundg (vs.length - (j + 1))
          case measure => have := HGJ.out; omega
          case rel => exact ⟨j + 1, rfl, by go_num, by omega, by rw [HMT.out, ← HD2.out]; congr 2; omega, HK2.out⟩
        · have hgt' : ¬ ((maxd ((rkids x).take j) : Nat) : Int) < (d : Int) := by omega
          go_wp2_with fail
          go_roundg (vs.length - (j + 1))
          case measure => have := HGJ.out; omega
          case rel => exact ⟨j + 1, rfl, by go_num, by omega, by rw [HMT.out, ← HD2.out]; congr 2; omega, HK2.out⟩
      · have hdl : decide ((j : Int) < (vs.length : Int)) = false := by simpa using hlt
        have ht : (rkids x).take j = rkids x := List.take_of_length_le (by have := HLEN.out; omega)
        have hdk := rdepth_kids HW.out
        have hdb : maxd (rkids x) ≤ 65536 := by have := rdepth_le x; have := HX.out; omega
        rw [ht]
        have HDK := Lib.hid hdk
        clear ht hdk
        go_wp2
        go_ret
        exact ⟨by rw [HDK.out]; go_num, HK.out⟩
end Go.Proofs.YtpbplpnifjbkoaaDoor

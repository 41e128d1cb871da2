/-
  ast.depth, by contract.
-/
import Derived.Test.YtpbplpnifjbkoaaDoorBelowr
import Derived.Deep.LoopGhost
namespace Go.Proofs.YtpbplpnifjbkoaaDoor
open Go.RowKit

theorem esz_pos (x : Exp) : 1 ≤ esz x := by cases x <;> simp [esz]
theorem esz_group (g : Exp) : (∀ a ∈ gBodies g, esz a < esz g) ∧ esz (gFor g) ≤ esz g ∧ (gBodies g).length < esz g := by
  induction g with
  | bnd x a g _ ih =>
    obtain ⟨h1, h2, h3⟩ := ih
    refine ⟨fun b hb => ?_, by simp only [gFor, esz]; omega, by simp only [gBodies, esz, List.length_cons]; omega⟩
    rcases List.mem_cons.1 hb with rfl | hb
    · simp only [esz]; omega
    · have := h1 b hb; simp only [esz]; omega
  | fin b _ => exact ⟨fun a ha => by simp [gBodies] at ha, by simp only [gFor, esz]; omega, by simp only [gBodies, esz, List.length_nil]; omega⟩
  | _ => exact ⟨fun a ha => by simp [gBodies] at ha, Nat.le_refl _, by simp only [gBodies, esz, List.length_nil]; omega⟩
theorem esz_kids {x a : Exp} (h : a ∈ kids x) : esz a < esz x := by
  cases x with
  | recr p g =>
    have ⟨h1, h2, _⟩ := esz_group g
    simp only [kids, List.mem_append, List.mem_singleton] at h
    rcases h with h | rfl
    · have := h1 a h; simp only [esz]; omega
    · simp only [esz]; omega
  | name p s =>
    simp [kids] at h
  | num p s =>
    simp [kids] at h
  | lam p x b =>
    simp only [kids, List.mem_cons, List.not_mem_nil, or_false] at h
    subst h; (simp only [esz]; omega)
  | app p f a' =>
    simp only [kids, List.mem_cons, List.not_mem_nil, or_false] at h
    rcases h with rfl | rfl <;> (simp only [esz]; omega)
  | pair p f a' =>
    simp only [kids, List.mem_cons, List.not_mem_nil, or_false] at h
    rcases h with rfl | rfl <;> (simp only [esz]; omega)
  | letin p x f a' =>
    simp only [kids, List.mem_cons, List.not_mem_nil, or_false] at h
    rcases h with rfl | rfl <;> (simp only [esz]; omega)
  | cond p c f a' =>
    simp only [kids, List.mem_cons, List.not_mem_nil, or_false] at h
    rcases h with rfl | rfl | rfl <;> (simp only [esz]; omega)
  | bnd x a' g => simp [kids] at h
  | fin b => simp [kids] at h
theorem wfE_kids {x a : Exp} (hw : wfE false x = true) (h : a ∈ kids x) : wfE false a = true := by
  cases x with
  | recr p g =>
    simp only [wfE, Bool.and_eq_true] at hw
    obtain ⟨h1, h2⟩ := group_wf g hw.2
    simp only [kids, List.mem_append, List.mem_singleton] at h
    rcases h with h | rfl
    · exact h1 a h
    · exact h2
  | name p s =>
    simp [kids] at h
  | num p s =>
    simp [kids] at h
  | lam p x b =>
    simp only [kids, List.mem_cons, List.not_mem_nil, or_false] at h
    simp only [wfE] at hw
    subst h; exact hw
  | app p f a' =>
    simp only [kids, List.mem_cons, List.not_mem_nil, or_false] at h
    simp only [wfE, Bool.and_eq_true] at hw
    rcases h with rfl | rfl <;> simp [hw]
  | pair p f a' =>
    simp only [kids, List.mem_cons, List.not_mem_nil, or_false] at h
    simp only [wfE, Bool.and_eq_true] at hw
    rcases h with rfl | rfl <;> simp [hw]
  | letin p x f a' =>
    simp only [kids, List.mem_cons, List.not_mem_nil, or_false] at h
    simp only [wfE, Bool.and_eq_true] at hw
    rcases h with rfl | rfl <;> simp [hw]
  | cond p c f a' =>
    simp only [kids, List.mem_cons, List.not_mem_nil, or_false] at h
    simp only [wfE, Bool.and_eq_true] at hw
    rcases h with rfl | rfl | rfl <;> simp [hw]
  | bnd x a' g => simp [kids] at h
  | fin b => simp [kids] at h
theorem depth_le (x : Exp) : depth x ≤ esz x := by
  induction x <;> simp only [depth, esz] <;> omega

theorem kids_len (x : Exp) : (kids x).length ≤ esz x := by
  cases x with
  | recr p g => have := (esz_group g).2.2; simp only [kids, esz, List.length_append, List.length_cons, List.length_nil]; omega
  | name p s => simp [kids]
  | num p s => simp [kids]
  | lam p x b => simp [kids, esz]
  | app p f a => have := esz_pos f; have := esz_pos a; simp [kids, esz]; omega
  | pair p f a => have := esz_pos f; have := esz_pos a; simp [kids, esz]; omega
  | letin p x f a => have := esz_pos f; have := esz_pos a; simp [kids, esz]; omega
  | cond p c f a => have := esz_pos c; have := esz_pos f; have := esz_pos a; simp [kids, esz]; omega
  | bnd x a g => simp [kids]
  | fin b => simp [kids]
def mx : List Exp → Nat
  | [] => 0
  | a :: r => max (depth a) (mx r)
theorem mx_snoc (l : List Exp) (a : Exp) : mx (l ++ [a]) = max (mx l) (depth a) := by
  induction l with
  | nil => simp [mx]
  | cons b r ih => simp only [List.cons_append, mx, ih]; omega
theorem take_next {l : List Exp} {j : Nat} (h : j < l.length) : mx (l.take (j + 1)) = max (mx (l.take j)) (depth l[j]) := by
  rw [List.take_succ_eq_append_getElem h, mx_snoc]

theorem depth_group (g : Exp) (hw : wfE true g = true) : depth g = mx (gBodies g ++ [gFor g]) := by
  induction g with
  | bnd x a g _ ih =>
    simp only [wfE, Bool.and_eq_true] at hw
    simp [depth, gBodies, gFor, mx, ih hw.2]
  | fin b _ => simp [depth, gBodies, gFor, mx]
  | name _ _ => simp [wfE] at hw
  | num _ _ => simp [wfE] at hw
  | lam _ _ _ _ => simp [wfE] at hw
  | app _ _ _ _ _ => simp [wfE] at hw
  | pair _ _ _ _ _ => simp [wfE] at hw
  | letin _ _ _ _ _ _ => simp [wfE] at hw
  | recr _ _ _ => simp [wfE] at hw
  | cond _ _ _ _ _ _ _ => simp [wfE] at hw
theorem depth_kids (x : Exp) (hw : wfE false x = true) : depth x = mx (kids x) + 1 := by
  cases x with
  | recr p g =>
    simp only [wfE, Bool.and_eq_true] at hw
    simp [depth, kids, depth_group g hw.2]
  | bnd x a g => simp [wfE] at hw
  | fin b => simp [wfE] at hw
  | name p s => rfl
  | num p s => rfl
  | lam p x b => simp [depth, kids, mx]
  | app p f a => simp [depth, kids, mx]
  | pair p f a => simp [depth, kids, mx]
  | letin p x f a => simp [depth, kids, mx]
  | cond p c f a => simp only [depth, kids, mx]; omega
theorem mx_lt (x : Exp) (n : Nat) (h : ∀ a ∈ kids x, depth a ≤ n) : mx (kids x) ≤ n := by
  generalize kids x = l at h
  induction l with
  | nil => simp [mx]
  | cons a r ih =>
    have := h a (by simp)
    have := ih (fun b hb => h b (by simp [hb]))
    simp [mx]; omega

set_option maxRecDepth 100000 in
set_option maxHeartbeats 4000000 in
theorem below_name (w : World) (lo hi p : Nat) (s : Bytes) (v : Value) (h : ExprAt w lo hi (.name p s) [] [] v) : Calls Tryd.prog 89 #[v] w (BelowPost w lo hi []) := by
  obtain ⟨_, _, c, h3, h4, rfl, h6⟩ := h
  clear h3 h4 h6
  have qFun := taNameFun (.pointer (some ⟨c, 0, none⟩)) 110 w
  have qApp := taNameApp (.pointer (some ⟨c, 0, none⟩)) 110 w
  have qPair := taNamePair (.pointer (some ⟨c, 0, none⟩)) 110 w
  have qLet := taNameLet (.pointer (some ⟨c, 0, none⟩)) 110 w
  have qRec := taNameRec (.pointer (some ⟨c, 0, none⟩)) 110 w
  have qIf := taNameIf (.pointer (some ⟨c, 0, none⟩)) 110 w
  go_enter Tryd.func89, Tryd.ntmps89
  go_wp2
  go_ret
  exact ⟨_, [], rfl, World.ownsRow_nil _ _ _ _, rfl, Keeps.refl [] w⟩

set_option maxRecDepth 100000 in
set_option maxHeartbeats 4000000 in
theorem below_num (w : World) (lo hi p : Nat) (s : Bytes) (v : Value) (h : ExprAt w lo hi (.num p s) [] [] v) : Calls Tryd.prog 89 #[v] w (BelowPost w lo hi []) := by
  obtain ⟨_, _, c, h3, h4, rfl, h6⟩ := h
  clear h3 h4 h6
  have qFun := taNumFun (.pointer (some ⟨c, 0, none⟩)) 110 w
  have qApp := taNumApp (.pointer (some ⟨c, 0, none⟩)) 110 w
  have qPair := taNumPair (.pointer (some ⟨c, 0, none⟩)) 110 w
  have qLet := taNumLet (.pointer (some ⟨c, 0, none⟩)) 110 w
  have qRec := taNumRec (.pointer (some ⟨c, 0, none⟩)) 110 w
  have qIf := taNumIf (.pointer (some ⟨c, 0, none⟩)) 110 w
  go_enter Tryd.func89, Tryd.ntmps89
  go_wp2
  go_ret
  exact ⟨_, [], rfl, World.ownsRow_nil _ _ _ _, rfl, Keeps.refl [] w⟩

theorem below_any {w : World} {lo hi : Nat} {x : Exp} {v : Value} (h : ExprAt w lo hi x [] [] v) (hw : wfE false x = true) (hs : esz x ≤ 65536) : Calls Tryd.prog 89 #[v] w (BelowPost w lo hi (kids x)) := by
  cases x with
  | name p s => exact below_name w lo hi p s v h
  | num p s => exact below_num w lo hi p s v h
  | lam p x b => exact below_lam w lo hi p x b v h hw
  | app p f a => exact below_app w lo hi p f a v h hw
  | pair p f a => exact below_pair w lo hi p f a v h hw
  | letin p x f a => exact below_letin w lo hi p x f a v h hw
  | cond p c f a => exact below_cond w lo hi p c f a v h hw
  | recr p g => exact below_recr w lo hi p g v h hw (by have := (esz_group g).2.2; simp only [esz] at hs; omega)
  | bnd x a g => simp [wfE] at hw
  | fin b => simp [wfE] at hw

set_option maxRecDepth 100000 in
set_option maxHeartbeats 4000000 in
theorem depth_any (n : Nat) (hn : n ≤ 65536) : ∀ (x : Exp), esz x ≤ n → wfE false x = true → ∀ (w : World) (lo hi : Nat) (v : Value), ExprAt w lo hi x [] [] v → hi ≤ w.heap.size →
    Calls Tryd.prog 72 #[v] w fun e w' => e = .returned (.int .i64 (depth x)) ∧ Keeps [] w w' := by
  induction n with
  | zero => intro x hx; have := esz_pos x; omega
  | succ n ih =>
    intro x hx hw w lo hi v h hhi
    replace ih := ih (by omega)
    have hmx : mx (kids x) ≤ n := mx_lt x n (fun a ha => by
      have := esz_kids ha
      have := depth_le a
      omega)
    have HB := Lib.hid (below_any h hw (by omega))
    have HIH := Lib.hid ih
    have HW := Lib.hid hw
    obtain ⟨ty, bb, rfl⟩ := h.ifp hw
    clear h hw ih
    go_enter Tryd.func72, Tryd.ntmps72
    go_wp2_with fail
    refine HB.out.mono ?_
    rintro e w1 ⟨sv, vs, rfl, hown, hall, hk⟩
    obtain ⟨ad, cap, rfl, hcell⟩ := ownsRow_shape hown
    have HALL := Lib.hid hall
    have hlen := hall.length
    have HK := Lib.hid hk
    have HL := Lib.hid hlen
    have hsz := hk.size
    have hvl : vs.length ≤ 65536 := by have := kids_len x; omega
    have HC := Lib.hid hcell
    have HD := Lib.hid (depth_kids x HW.out)
    clear hall hlen hk hown hcell
    go_wp2_with fail
    go_loopg [3, 9] vs.length (fun gg m i wx => ∃ j : Nat, gg = vs.length - j ∧ i = .int .i64 j ∧ j ≤ vs.length ∧ m = .int .i64 (mx ((kids x).take j)) ∧ Keeps [] w1 wx)
    case atStart => exact ⟨0, rfl, rfl, by omega, rfl, Keeps.refl _ _⟩
    case round =>
      obtain ⟨j, hg, rfl, hj, rfl, hk⟩ := hrel
      have HG := Lib.hid hg
      have HK2 := Lib.hid hk
      clear hg hk
      by_cases hlt : j < vs.length
      · obtain ⟨gb, rfl, hc⟩ := HC.out j hlt
        obtain ⟨vj, hvj, hex⟩ := HALL.out.get j (by rw [← HL.out]; exact hlt)
        obtain ⟨tj, bj, rfl⟩ := hex.ifp (wfE_kids HW.out (List.getElem_mem _))
        rw [hvj] at hc
        have hc' := HK2.out.cellSome hc (by simp)
        have hdl : decide ((j : Int) < (vs.length : Int)) = true := by simpa using hlt
        have hex2 := ExprAt.keep (fun b h1 h2 => (HK2.out.block b (by omega) (by simp)).trans (HK.out.block b (by omega) (by simp))) _ _ _ _ hex
        have HE := Lib.hid hex2
        have hst := HK2.out.size
        clear hc hvj hex hex2
        go_wp2_with fail
        refine (HIH.out _ (by have := esz_kids (List.getElem_mem (l := kids x) (n := j) (by rw [← HL.out]; exact hlt)); omega) (wfE_kids HW.out (List.getElem_mem _)) _ _ _ _ HE.out (by omega)).mono ?_
        rintro e w2 ⟨rfl, hk⟩
        have HK3 := Lib.hid (HK2.out.trans0 hk)
        clear hk
        go_wp2_with fail
        all_goals
          go_roundg (vs.length - (j + 1))
          case measure => have := HG.out; omega
          case rel =>
            refine ⟨j + 1, rfl, by go_num, by omega, ?_, HK3.out⟩
            rw [take_next (by rw [← HL.out]; exact hlt)]
            refine congrArg _ ?_
            omega
      · have hdl : decide ((j : Int) < (vs.length : Int)) = false := by simpa using hlt
        have hjl : (kids x).take j = kids x := List.take_of_length_le (by rw [← HL.out]; omega)
        rw [hjl]
        clear hjl
        go_wp2
        go_ret
        refine ⟨?_, HK.out.trans0 HK2.out⟩
        rw [HD.out]
        rfl
end Go.Proofs.YtpbplpnifjbkoaaDoor

/-
  types.Show, by contract, for whatever names variables.
-/
import Derived.Test.YtpbplpnifjbkoabGreatDoorTred
import Derived.Deep.RegionHeld3
import Derived.Test.YtpbplpnifjbkoabGreatDoorTval
import Derived.Test.YtpbplpnifjbkoabGreatDoorShelf
import Derived.Maps.OwnSet
import Derived.Laws.IdiomStrings
import Derived.Test.YtpbplpnifjbkoabGreatDoorTrd
import Derived.Test.YtpbplpnifjbkoabGreatDoorPlainShow
namespace Go.Proofs.YtpbplpnifjbkoabGreatDoor
open Go.RowKit

/-- A type's text; names come one after the other. -/
def shownF {σ : Type} (nx : σ → Nat → Bytes × σ) : Ty → σ → Bytes × σ
  | .var n, s => nx s n
  | .int, s => ([105, 110, 116], s)
  | .bool, s => ([98, 111, 111, 108], s)
  | .list a, s => let p := shownF nx a s; ([91] ++ p.1 ++ [93], p.2)
  | .pair a b, s => let p := shownF nx a s; let q := shownF nx b p.2; ([40] ++ p.1 ++ [44, 32] ++ q.1 ++ [41], q.2)
  | .arr a b, s => let p := shownF nx a s; let q := shownF nx b p.2; ((if isArr a then par p.1 else p.1) ++ [32, 45, 62, 32] ++ q.1, q.2)

/-- What names variables: its number and what it has captured; its state. -/
structure NameFn [Inhabited Low] {σ : Type} (kf : FuncId) (caps : Array Value) (Q : Nat → ByteArray → Prop) (st : σ → World → Prop) (nx : σ → Nat → Bytes × σ) (cap : σ → Nat) (M : List Nat) : Prop where
  call : ∀ s w (b n : Nat) nm, st s w → w.heap[b]? = some (varO n .nilIface nm) → Q n nm → cap s < 2000 →
    Calls Tryz.prog kf (#[.pointer (some ⟨b, 0, none⟩)] ++ caps) w fun e w' => e = .returned (.string (bs (nx s n).1)) ∧ st (nx s n).2 w' ∧ KV M w w'
  ent : ∀ (b : Nat) (w : World), (callFunc kf (#[.pointer (some ⟨b, 0, none⟩)] ++ caps)).run Tryz.prog w = .ok (.enter kf (#[.pointer (some ⟨b, 0, none⟩)] ++ caps)) w
  keep : ∀ s w w', st s w → KV [] w w' → st s w'
  len : ∀ s n, cap s < 2000 → (nx s n).1.length ≤ 30
  grow : ∀ s n, cap (nx s n).2 ≤ cap s + 1

theorem shownF_bd [Inhabited Low] {σ : Type} {kf : FuncId} {caps : Array Value} {Q : Nat → ByteArray → Prop} {st : σ → World → Prop} {nx : σ → Nat → Bytes × σ} {cap : σ → Nat} {M : List Nat} (hN : NameFn kf caps Q st nx cap M) (t : Ty) :
    ∀ s, cap s + t.size ≤ 2000 → (shownF nx t s).1.length ≤ 38 * t.size ∧ cap (shownF nx t s).2 ≤ cap s + t.size := by
  induction t with
  | var n => intro s h; simp only [shownF, Ty.size] at h ⊢; have := hN.len s n (by omega); have := hN.grow s n; omega
  | int => intro s h; simp [shownF, Ty.size]
  | bool => intro s h; simp [shownF, Ty.size]
  | list a ih => intro s h; simp only [Ty.size] at h; have := ih s (by omega); simp only [shownF, Ty.size, List.length_append, List.length_cons, List.length_nil]; omega
  | pair a b iha ihb =>
    intro s h
    simp only [Ty.size] at h
    have h1 := iha s (by omega)
    have h2 := ihb (shownF nx a s).2 (by omega)
    simp only [shownF, Ty.size, List.length_append, List.length_cons, List.length_nil]; omega
  | arr a b iha ihb =>
    intro s h
    simp only [Ty.size] at h
    have h1 := iha s (by omega)
    have h2 := ihb (shownF nx a s).2 (by omega)
    simp only [shownF, Ty.size, List.length_append, List.length_cons, List.length_nil]
    split <;> simp [par] <;> omega

theorem taVarVar (v : Value) (xT : TypeId) (w : World) : (Instr.typeAssert (.iface 178 v) xT 178 false).run Tryz.prog w = .ok v w := by kernel_rfl

theorem kindT_fun (t : Ty) : ((bs (kindT t)).toList == kFun) = isArr t := by cases t <;> (simp only [ByteArray.toList_eq, bs_data, kindT]; rfl)
/-- types.Show of a type, whatever state. -/
def ShowOK [Inhabited Low] {σ : Type} (kf : FuncId) (caps : Array Value) (Q : Nat → ByteArray → Prop) (st : σ → World → Prop) (nx : σ → Nat → Bytes × σ) (cap : σ → Nat) (M : List Nat) (t : Ty) : Prop :=
    ∀ (s : σ) (w : World) (v : Value), TyV Q w t v → st s w → cap s + t.size ≤ 2000 →
    Calls Tryz.prog 55 #[v, .func (.func kf) #[] caps] w fun e w' => e = .returned (.string (bs (shownF nx t s).1)) ∧ st (shownF nx t s).2 w' ∧ KV M w w'
theorem kne1 : ((bs kInt).toList == kList) = false ∧ ((bs kInt).toList == kPair) = false ∧ ((bs kInt).toList == kFun) = false := by simp only [ByteArray.toList_eq, bs_data]; decide
theorem kne2 : ((bs kBool).toList == kList) = false ∧ ((bs kBool).toList == kPair) = false ∧ ((bs kBool).toList == kFun) = false := by simp only [ByteArray.toList_eq, bs_data]; decide
theorem kne3 : ((bs kPair).toList == kList) = false ∧ ((bs kPair).toList == kPair) = true ∧ ((bs kFun).toList == kList) = false ∧ ((bs kFun).toList == kPair) = false ∧ ((bs kFun).toList == kFun) = true ∧ ((bs kList).toList == kList) = true ∧ ((bs kList).toList == kFun) = false ∧ ((bs kPair).toList == kFun) = false := by simp only [ByteArray.toList_eq, bs_data]; decide

set_option maxRecDepth 100000 in
set_option maxHeartbeats 4000000 in
theorem showt_var [Inhabited Low] {σ : Type} {kf : FuncId} {caps : Array Value} {Q : Nat → ByteArray → Prop} {st : σ → World → Prop} {nx : σ → Nat → Bytes × σ} {cap : σ → Nat} {M : List Nat} (hN : NameFn kf caps Q st nx cap M) (n : Nat) :
    ShowOK kf caps Q st nx cap M (.var n) := by
  intro s w v hv hs hc
  obtain ⟨r, hf⟩ := hv.fnd
  have HV := Lib.hid hv
  have HF := Lib.hid hf
  have HN := Lib.hid hN
  have HS := Lib.hid hs
  have hsh := hv.shape
  clear hv hf hN hs
  rcases hsh with ⟨vb, rfl⟩ | ⟨vc, rfl⟩
  all_goals
    go_enter Tryz.func55, Tryz.ntmps55
    go_wp2_with fail
    first | refine (find_var HF.out).mono ?_ | refine (find_con HF.out).mono ?_
    rintro e w1 ⟨rfl, hk⟩
    have hv1 := hk.ty HV.out
    have HK := Lib.hid hk
    have HV1 := Lib.hid hv1
    have HF1 := Lib.hid (hk.fnd _ _ HF.out)
    have HS1 := Lib.hid (HN.out.keep _ _ _ HS.out hk)
    obtain ⟨b2, nm, rfl, hb2, hq⟩ := hv1.res HF1.out
    have hta := taVarCon (.pointer (some ⟨b2, 0, none⟩)) 116 w1
    clear hk hv1 HV HS HF
    go_wp2_with fail
    first | refine (find_var HF1.out).mono ?_ | refine (find_con HF1.out).mono ?_
    rintro e w2 ⟨rfl, hk⟩
    have hta2 := taVarVar (.pointer (some ⟨b2, 0, none⟩)) 116 w2
    have hent := HN.out.ent b2 w2
    have hcall := HN.out.call s w2 b2 n nm (HN.out.keep _ _ _ HS1.out hk) (hk.root hb2) hq (by simp only [Ty.size] at hc; omega)
    have HCALL := Lib.hid hcall
    have HK2 := Lib.hid (HK.out.trans0 hk)
    clear hcall hk hb2 hq hc hta HV1 HF1 HS1 HK
    go_wp2_with fail
    refine HCALL.out.mono ?_
    rintro e w3 ⟨rfl, hst, hk⟩
    go_wp2
    go_ret
    exact ⟨rfl, hst, (HK2.out.mono (by simp)).trans hk (fun _ h => .inl h)⟩

set_option maxRecDepth 100000 in
set_option maxHeartbeats 4000000 in
theorem showt_int [Inhabited Low] {σ : Type} {kf : FuncId} {caps : Array Value} {Q : Nat → ByteArray → Prop} {st : σ → World → Prop} {nx : σ → Nat → Bytes × σ} {cap : σ → Nat} {M : List Nat} (hN : NameFn kf caps Q st nx cap M) :
    ShowOK kf caps Q st nx cap M .int := by
  intro s w v hv hs hc
  obtain ⟨r, hf⟩ := hv.fnd
  have HV := Lib.hid hv
  have HF := Lib.hid hf
  have HN := Lib.hid hN
  have HS := Lib.hid hs
  have hsh := hv.shape
  clear hv hf hN hs
  rcases hsh with ⟨vb, rfl⟩ | ⟨vc, rfl⟩
  all_goals
    go_enter Tryz.func55, Tryz.ntmps55
    go_wp2_with fail
    first | refine (find_var HF.out).mono ?_ | refine (find_con HF.out).mono ?_
    rintro e w1 ⟨rfl, hk⟩
    have hv1 := hk.ty HV.out
    have HK := Lib.hid hk
    have HV1 := Lib.hid hv1
    have HF1 := Lib.hid (hk.fnd _ _ HF.out)
    have HS1 := Lib.hid (HN.out.keep _ _ _ HS.out hk)
    obtain ⟨c, rfl, hcb⟩ := hv1.res HF1.out
    have hta := taConCon (.pointer (some ⟨c, 0, none⟩)) 116 w1
    have c0 : w1.cell? ⟨c, 0, none⟩ = some (.string (bs kInt)) := cell_of_block hcb 0
    obtain ⟨q1, q2, q3⟩ := kne1
    clear hk hv1 HV HS HF HV1 HF1 hcb hc
    go_wp2
    go_ret
    exact ⟨rfl, HS1.out, HK.out.mono (by simp)⟩

set_option maxRecDepth 100000 in
set_option maxHeartbeats 4000000 in
theorem showt_bool [Inhabited Low] {σ : Type} {kf : FuncId} {caps : Array Value} {Q : Nat → ByteArray → Prop} {st : σ → World → Prop} {nx : σ → Nat → Bytes × σ} {cap : σ → Nat} {M : List Nat} (hN : NameFn kf caps Q st nx cap M) :
    ShowOK kf caps Q st nx cap M .bool := by
  intro s w v hv hs hc
  obtain ⟨r, hf⟩ := hv.fnd
  have HV := Lib.hid hv
  have HF := Lib.hid hf
  have HN := Lib.hid hN
  have HS := Lib.hid hs
  have hsh := hv.shape
  clear hv hf hN hs
  rcases hsh with ⟨vb, rfl⟩ | ⟨vc, rfl⟩
  all_goals
    go_enter Tryz.func55, Tryz.ntmps55
    go_wp2_with fail
    first | refine (find_var HF.out).mono ?_ | refine (find_con HF.out).mono ?_
    rintro e w1 ⟨rfl, hk⟩
    have hv1 := hk.ty HV.out
    have HK := Lib.hid hk
    have HV1 := Lib.hid hv1
    have HF1 := Lib.hid (hk.fnd _ _ HF.out)
    have HS1 := Lib.hid (HN.out.keep _ _ _ HS.out hk)
    obtain ⟨c, rfl, hcb⟩ := hv1.res HF1.out
    have hta := taConCon (.pointer (some ⟨c, 0, none⟩)) 116 w1
    have c0 : w1.cell? ⟨c, 0, none⟩ = some (.string (bs kBool)) := cell_of_block hcb 0
    obtain ⟨q1, q2, q3⟩ := kne2
    clear hk hv1 HV HS HF HV1 HF1 hcb hc
    go_wp2
    go_ret
    exact ⟨rfl, HS1.out, HK.out.mono (by simp)⟩

set_option maxRecDepth 100000 in
set_option maxHeartbeats 4000000 in
theorem showt_list [Inhabited Low] {σ : Type} {kf : FuncId} {caps : Array Value} {Q : Nat → ByteArray → Prop} {st : σ → World → Prop} {nx : σ → Nat → Bytes × σ} {cap : σ → Nat} {M : List Nat} (hN : NameFn kf caps Q st nx cap M) (a : Ty) (ih : ShowOK kf caps Q st nx cap M a) :
    ShowOK kf caps Q st nx cap M (.list a) := by
  intro s w v hv hs hc
  obtain ⟨r, hf⟩ := hv.fnd
  have HV := Lib.hid hv
  have HF := Lib.hid hf
  have HN := Lib.hid hN
  have HS := Lib.hid hs
  have hsh := hv.shape
  simp only [Ty.size] at hc
  have hbd := shownF_bd hN a s (by omega)
  have hsz := a.size_pos
  have HIH := Lib.hid ih
  clear hv hf hN hs
  rcases hsh with ⟨vb, rfl⟩ | ⟨vc, rfl⟩
  all_goals
    go_enter Tryz.func55, Tryz.ntmps55
    go_wp2_with fail
    first | refine (find_var HF.out).mono ?_ | refine (find_con HF.out).mono ?_
    rintro e w1 ⟨rfl, hk⟩
    have hv1 := hk.ty HV.out
    have HK := Lib.hid hk
    have HV1 := Lib.hid hv1
    have HF1 := Lib.hid (hk.fnd _ _ HF.out)
    have HS1 := Lib.hid (HN.out.keep _ _ _ HS.out hk)
    obtain ⟨c, sv, va, rfl, hcb, ⟨g, cp, cs, rfl, hg, hcs⟩, hva⟩ := hv1.res HF1.out
    have hta := taConCon (.pointer (some ⟨c, 0, none⟩)) 116 w1
    have c0 : w1.cell? ⟨c, 0, none⟩ = some (.string (bs kList)) := cell_of_block hcb 0
    have c1 : w1.cell? ⟨c, 1, none⟩ = some (.slice (some ⟨g, 0, none⟩) 1 cp) := cell_of_block hcb 1
    have g0 : w1.cell? ⟨g, 0, none⟩ = some va := (cell_of_block hg 0).trans (hcs 0 va rfl)
    obtain ⟨vt, vp, rfl⟩ : ∃ vt vp, va = .iface vt vp := by rcases hva.shape with ⟨_, rfl⟩ | ⟨_, rfl⟩ <;> exact ⟨_, _, rfl⟩
    have HC := Lib.hid (HIH.out s w1 _ hva HS1.out (by omega))
    obtain ⟨_, _, _, _, _, q6, _⟩ := kne3
    have s0 : ¬ 9223372036854775807 < 1 + (bs (shownF nx a s).1).size := by rw [bs_size]; omega
    have s1 : ¬ 9223372036854775807 < 1 + (bs (shownF nx a s).1).size + 1 := by rw [bs_size]; omega
    clear hk hv1 HV HS HF HV1 HF1 hcb hc hg hcs hva HS1 hbd
    go_wp2_with fail
    refine HC.out.mono ?_
    rintro e w2 ⟨rfl, hst, hk⟩
    go_wp2
    go_ret
    refine ⟨congrArg (fun b => Ending.returned (.string b)) ?_, hst, (HK.out.mono (by simp)).trans hk (fun _ h => .inl h)⟩
    apply ba_ext
    simp only [ByteArray.data_append, Array.toList_append, bs_data, shownF]

set_option maxRecDepth 100000 in
set_option maxHeartbeats 4000000 in
theorem showt_pair [Inhabited Low] {σ : Type} {kf : FuncId} {caps : Array Value} {Q : Nat → ByteArray → Prop} {st : σ → World → Prop} {nx : σ → Nat → Bytes × σ} {cap : σ → Nat} {M : List Nat} (hN : NameFn kf caps Q st nx cap M) (a b : Ty) (iha : ShowOK kf caps Q st nx cap M a) (ihb : ShowOK kf caps Q st nx cap M b) :
    ShowOK kf caps Q st nx cap M (.pair a b) := by
  intro s w v hv hs hc
  obtain ⟨r, hf⟩ := hv.fnd
  have HV := Lib.hid hv
  have HF := Lib.hid hf
  have HN := Lib.hid hN
  have HS := Lib.hid hs
  have hsh := hv.shape
  simp only [Ty.size] at hc
  have hbd := shownF_bd hN a s (by omega)
  have hbd2 := shownF_bd hN b (shownF nx a s).2 (by omega)
  have hsz := a.size_pos
  have hsz2 := b.size_pos
  have HIA := Lib.hid iha
  have HIB := Lib.hid ihb
  clear hv hf hN hs
  rcases hsh with ⟨vb, rfl⟩ | ⟨vc, rfl⟩
  all_goals
    go_enter Tryz.func55, Tryz.ntmps55
    go_wp2_with fail
    first | refine (find_var HF.out).mono ?_ | refine (find_con HF.out).mono ?_
    rintro e w1 ⟨rfl, hk⟩
    have hv1 := hk.ty HV.out
    have HK := Lib.hid hk
    have HV1 := Lib.hid hv1
    have HF1 := Lib.hid (hk.fnd _ _ HF.out)
    have HS1 := Lib.hid (HN.out.keep _ _ _ HS.out hk)
    obtain ⟨c, sv, va, vb', rfl, hcb, ⟨g, cp, cs, rfl, hg, hcs⟩, hva, hvb⟩ := hv1.res HF1.out
    have hta := taConCon (.pointer (some ⟨c, 0, none⟩)) 116 w1
    have c0 : w1.cell? ⟨c, 0, none⟩ = some (.string (bs kPair)) := cell_of_block hcb 0
    have c1 : w1.drew.cell? ⟨c, 1, none⟩ = some (.slice (some ⟨g, 0, none⟩) 2 cp) := cell_of_block hcb 1
    have g0 : w1.drew.cell? ⟨g, 0, none⟩ = some va := (cell_of_block hg 0).trans (hcs 0 va rfl)
    have g1 : w1.drew.cell? ⟨g, 1, none⟩ = some vb' := (cell_of_block hg 1).trans (hcs 1 vb' rfl)
    obtain ⟨vt, vp, rfl⟩ : ∃ vt vp, va = .iface vt vp := by rcases hva.shape with ⟨_, rfl⟩ | ⟨_, rfl⟩ <;> exact ⟨_, _, rfl⟩
    obtain ⟨ut, up, rfl⟩ : ∃ ut up, vb' = .iface ut up := by rcases hvb.shape with ⟨_, rfl⟩ | ⟨_, rfl⟩ <;> exact ⟨_, _, rfl⟩
    have hkd : KV [] w1 w1.drew := ((Keeps.refl [] w1).drew).kv0
    have HC := Lib.hid (HIA.out s w1.drew _ (hkd.ty hva) (HN.out.keep _ _ _ HS1.out hkd) (by omega))
    have HB := Lib.hid hvb
    have HKD := Lib.hid hkd
    have HCB := Lib.hid hcb
    have HG := Lib.hid hg
    have HCS := Lib.hid hcs
    obtain ⟨q1, q2, _⟩ := kne3
    have s0 : ¬ 9223372036854775807 < 1 + (bs (shownF nx a s).1).size := by rw [bs_size]; omega
    have s1 : ¬ 9223372036854775807 < 1 + (bs (shownF nx a s).1).size + 2 := by rw [bs_size]; omega
    have s2 : ¬ 9223372036854775807 < 1 + (bs (shownF nx a s).1).size + 2 + (bs (shownF nx b (shownF nx a s).2).1).size := by simp only [bs_size]; omega
    have s3 : ¬ 9223372036854775807 < 1 + (bs (shownF nx a s).1).size + 2 + (bs (shownF nx b (shownF nx a s).2).1).size + 1 := by simp only [bs_size]; omega
    clear hk hv1 HV HS HF HV1 HF1 hcb hg hcs hva hvb HS1 hbd2 hkd
    go_wp2_with fail
    clear hta c0 q1 q2
    go_region_held3 (fun W => W.cell? ⟨c, 1, none⟩ = some (.slice (some ⟨g, 0, none⟩) 2 cp) ∧ W.cell? ⟨g, 0, none⟩ = some (.iface vt vp) ∧ W.cell? ⟨g, 1, none⟩ = some (.iface ut up))
      (first | exact ⟨c1, g0, g1⟩ | exact ⟨d1, e0, e1⟩ | exact ⟨d1', e0', e1'⟩)
      (first | (go_at_call_of 55 (Value.iface vt vp); refine HC.out.mono ?_; rintro e w2 ⟨rfl, hst, hk⟩; have HK2 := Lib.hid (HKD.out.mono (M' := M) (by simp) |>.trans hk (fun _ h => .inl h)); have d1 : w2.cell? ⟨c, 1, none⟩ = some (.slice (some ⟨g, 0, none⟩) 2 cp) := cell_of_block (HK2.out.con _ _ _ _ HCB.out (.inl rfl)) 1; have e0 : w2.cell? ⟨g, 0, none⟩ = some (.iface vt vp) := (cell_of_block (HK2.out.con _ _ _ _ HG.out (.inr rfl)) 0).trans (HCS.out 0 _ rfl); have e1 : w2.cell? ⟨g, 1, none⟩ = some (.iface ut up) := (cell_of_block (HK2.out.con _ _ _ _ HG.out (.inr rfl)) 1).trans (HCS.out 1 _ rfl); have HC2 := Lib.hid (HIB.out (shownF nx a s).2 w2 _ (HK2.out.ty HB.out) hst (by omega)); clear hk hst)
             | (go_at_call_of 55 (Value.iface ut up); refine HC2.out.mono ?_; rintro e w3 ⟨rfl, hst, hk⟩; have HST := Lib.hid hst; have HK3 := Lib.hid (HK2.out.trans hk (fun _ h => .inl h)); have d1' : w3.cell? ⟨c, 1, none⟩ = some (.slice (some ⟨g, 0, none⟩) 2 cp) := cell_of_block (HK3.out.con _ _ _ _ HCB.out (.inl rfl)) 1; have e0' : w3.cell? ⟨g, 0, none⟩ = some (.iface vt vp) := (cell_of_block (HK3.out.con _ _ _ _ HG.out (.inr rfl)) 0).trans (HCS.out 0 _ rfl); have e1' : w3.cell? ⟨g, 1, none⟩ = some (.iface ut up) := (cell_of_block (HK3.out.con _ _ _ _ HG.out (.inr rfl)) 1).trans (HCS.out 1 _ rfl); clear hk hst))
    all_goals
      go_wp2
      go_ret
      refine ⟨congrArg (fun b => Ending.returned (.string b)) ?_, HST.out, (HK.out.mono (by simp)).trans HK3.out (fun _ h => .inl h)⟩
      apply ba_ext
      simp only [ByteArray.data_append, Array.toList_append, bs_data, shownF]

set_option maxRecDepth 100000 in
set_option maxHeartbeats 4000000 in
theorem showt_arr [Inhabited Low] {σ : Type} {kf : FuncId} {caps : Array Value} {Q : Nat → ByteArray → Prop} {st : σ → World → Prop} {nx : σ → Nat → Bytes × σ} {cap : σ → Nat} {M : List Nat} (hN : NameFn kf caps Q st nx cap M) (a b : Ty) (iha : ShowOK kf caps Q st nx cap M a) (ihb : ShowOK kf caps Q st nx cap M b) :
    ShowOK kf caps Q st nx cap M (.arr a b) := by
  intro s w v hv hs hc
  obtain ⟨r, hf⟩ := hv.fnd
  have HV := Lib.hid hv
  have HF := Lib.hid hf
  have HN := Lib.hid hN
  have HS := Lib.hid hs
  have hsh := hv.shape
  simp only [Ty.size] at hc
  have hbd := shownF_bd hN a s (by omega)
  have hbd2 := shownF_bd hN b (shownF nx a s).2 (by omega)
  have hsz := a.size_pos
  have hsz2 := b.size_pos
  have HIA := Lib.hid iha
  have HIB := Lib.hid ihb
  clear hv hf hN hs
  rcases hsh with ⟨vb, rfl⟩ | ⟨vc, rfl⟩
  all_goals
    go_enter Tryz.func55, Tryz.ntmps55
    go_wp2_with fail
    first | refine (find_var HF.out).mono ?_ | refine (find_con HF.out).mono ?_
    rintro e w1 ⟨rfl, hk⟩
    have hv1 := hk.ty HV.out
    have HK := Lib.hid hk
    have HV1 := Lib.hid hv1
    have HF1 := Lib.hid (hk.fnd _ _ HF.out)
    have HS1 := Lib.hid (HN.out.keep _ _ _ HS.out hk)
    obtain ⟨c, sv, va, vb', rfl, hcb, ⟨g, cp, cs, rfl, hg, hcs⟩, hva, hvb⟩ := hv1.res HF1.out
    have hta := taConCon (.pointer (some ⟨c, 0, none⟩)) 116 w1
    have c0 : w1.cell? ⟨c, 0, none⟩ = some (.string (bs kFun)) := cell_of_block hcb 0
    have c1 : w1.cell? ⟨c, 1, none⟩ = some (.slice (some ⟨g, 0, none⟩) 2 cp) := cell_of_block hcb 1
    have g0 : w1.cell? ⟨g, 0, none⟩ = some va := (cell_of_block hg 0).trans (hcs 0 va rfl)
    obtain ⟨q1, q2, q3, q4, q5, _, q7, q8⟩ := kne3
    have hsa := hva.shape
    obtain ⟨ra, hfa⟩ := hva.fnd
    obtain ⟨ut, up, rfl⟩ : ∃ ut up, vb' = .iface ut up := by rcases hvb.shape with ⟨_, rfl⟩ | ⟨_, rfl⟩ <;> exact ⟨_, _, rfl⟩
    have HC := Lib.hid (HIA.out s w1 _ hva HS1.out (by omega))
    have HA := Lib.hid hva
    have HFA := Lib.hid hfa
    have HB := Lib.hid hvb
    have HCB := Lib.hid hcb
    have HG := Lib.hid hg
    have HCS := Lib.hid hcs
    clear hk hv1 HV HS HF HV1 HF1 hcb hg hcs hva hvb HS1 hfa
    rcases hsa with ⟨wb, rfl⟩ | ⟨wc, rfl⟩
    all_goals
      go_wp2_with fail
      refine HC.out.mono ?_
      rintro e w2 ⟨rfl, hst, hk⟩
      have HK2 := Lib.hid (show KV M w1 w2 from hk)
      have d0 : w2.cell? ⟨c, 0, none⟩ = some (.string (bs kFun)) := cell_of_block (HK2.out.con _ _ _ _ HCB.out (.inl rfl)) 0
      have d1 : w2.cell? ⟨c, 1, none⟩ = some (.slice (some ⟨g, 0, none⟩) 2 cp) := cell_of_block (HK2.out.con _ _ _ _ HCB.out (.inl rfl)) 1
      have e0 := (cell_of_block (HK2.out.con _ _ _ _ HG.out (.inr rfl)) 0).trans (HCS.out 0 _ rfl)
      have HA2 := Lib.hid (hk.ty HA.out)
      have HFA2 := Lib.hid (hk.fnd _ _ HFA.out)
      have HST2 := Lib.hid hst
      clear hk hst c0 c1 g0 hta HC
      go_wp2_with fail
      first | refine (find_var HFA2.out).mono ?_ | refine (find_con HFA2.out).mono ?_
      rintro e w3 ⟨rfl, hk⟩
      have HK3 := Lib.hid (HK2.out.trans0 hk)
      have HA3 := Lib.hid ((hk.ty HA2.out).res (hk.fnd _ _ HFA2.out))
      have f1 : w3.cell? ⟨c, 1, none⟩ = some (.slice (some ⟨g, 0, none⟩) 2 cp) := cell_of_block (HK3.out.con _ _ _ _ HCB.out (.inl rfl)) 1
      have h1 : w3.cell? ⟨g, 1, none⟩ = some (.iface ut up) := (cell_of_block (HK3.out.con _ _ _ _ HG.out (.inr rfl)) 1).trans (HCS.out 1 _ rfl)
      have HC2 := Lib.hid (HIB.out (shownF nx a s).2 w3 _ (HK3.out.ty HB.out) (HN.out.keep _ _ _ HST2.out hk) (by omega))
      clear hk d0 d1 e0 HFA2 HFA HA2
      have hra := HA3.out
      by_cases hvar : isVarT a = true
      · obtain ⟨vn, rfl⟩ : ∃ vn, a = .var vn := by cases a <;> first | exact ⟨_, rfl⟩ | simp [isVarT] at hvar
        obtain ⟨b2, nm, rfl, _, _⟩ := hra
        have hta := taVarCon (.pointer (some ⟨b2, 0, none⟩)) 116 w3
        have s0 : ¬ 9223372036854775807 < (bs (shownF nx (.var vn) s).1).size + 4 := by rw [bs_size]; omega
        have s1 : ¬ 9223372036854775807 < (bs (shownF nx (.var vn) s).1).size + 4 + (bs (shownF nx b (shownF nx (.var vn) s).2).1).size := by simp only [bs_size]; omega
        clear hvar hbd hbd2 HA3
        go_wp2_with fail
        refine HC2.out.mono ?_
        rintro e w4 ⟨rfl, hst, hk⟩
        go_wp2
        go_ret
        refine ⟨congrArg (fun b => Ending.returned (.string b)) ?_, hst, (HK.out.mono (by simp)).trans (HK3.out.trans hk (fun _ h => .inl h)) (fun _ h => .inl h)⟩
        apply ba_ext
        simp only [ByteArray.data_append, Array.toList_append, bs_data, shownF, isArr]
        first | done | rfl
      · obtain ⟨c', ad, cap', vs, rfl, hc', _, _⟩ := hra.kids (eq_false_of_ne_true hvar)
        have hta := taConCon (.pointer (some ⟨c', 0, none⟩)) 116 w3
        have k0 : w3.cell? ⟨c', 0, none⟩ = some (.string (bs (kindT a))) := cell_of_block hc' 0
        have q9 := kindT_fun a
        cases hia : isArr a with
        | true =>
          rw [hia] at q9
          have s0 : ¬ 9223372036854775807 < 1 + (bs (shownF nx a s).1).size := by rw [bs_size]; omega
          have s1 : ¬ 9223372036854775807 < 1 + (bs (shownF nx a s).1).size + 1 := by rw [bs_size]; omega
          have s2 : ¬ 9223372036854775807 < 1 + (bs (shownF nx a s).1).size + 1 + 4 := by rw [bs_size]; omega
          have s3 : ¬ 9223372036854775807 < 1 + (bs (shownF nx a s).1).size + 1 + 4 + (bs (shownF nx b (shownF nx a s).2).1).size := by simp only [bs_size]; omega
          have HIS := Lib.hid hia
          clear hvar hbd hbd2 HA3 hc' hia
          go_wp2_with fail
          refine HC2.out.mono ?_
          rintro e w4 ⟨rfl, hst, hk⟩
          go_wp2
          go_ret
          refine ⟨congrArg (fun b => Ending.returned (.string b)) ?_, hst, (HK.out.mono (by simp)).trans (HK3.out.trans hk (fun _ h => .inl h)) (fun _ h => .inl h)⟩
          apply ba_ext
          simp only [ByteArray.data_append, Array.toList_append, bs_data, shownF, HIS.out, par, if_true]
          first | done | rfl
        | false =>
          rw [hia] at q9
          have s0 : ¬ 9223372036854775807 < (bs (shownF nx a s).1).size + 4 := by rw [bs_size]; omega
          have s1 : ¬ 9223372036854775807 < (bs (shownF nx a s).1).size + 4 + (bs (shownF nx b (shownF nx a s).2).1).size := by simp only [bs_size]; omega
          have HIS := Lib.hid hia
          clear hvar hbd hbd2 HA3 hc' hia
          go_wp2_with fail
          refine HC2.out.mono ?_
          rintro e w4 ⟨rfl, hst, hk⟩
          go_wp2
          go_ret
          refine ⟨congrArg (fun b => Ending.returned (.string b)) ?_, hst, (HK.out.mono (by simp)).trans (HK3.out.trans hk (fun _ h => .inl h)) (fun _ h => .inl h)⟩
          apply ba_ext
          simp only [ByteArray.data_append, Array.toList_append, bs_data, shownF, HIS.out]
          first | done | rfl

theorem showt_any [Inhabited Low] {σ : Type} {kf : FuncId} {caps : Array Value} {Q : Nat → ByteArray → Prop} {st : σ → World → Prop} {nx : σ → Nat → Bytes × σ} {cap : σ → Nat} {M : List Nat} (hN : NameFn kf caps Q st nx cap M) (t : Ty) : ShowOK kf caps Q st nx cap M t := by
  induction t with
  | var n => exact showt_var hN n
  | int => exact showt_int hN
  | bool => exact showt_bool hN
  | list a ih => exact showt_list hN a ih
  | pair a b iha ihb => exact showt_pair hN a b iha ihb
  | arr a b iha ihb => exact showt_arr hN a b iha ihb
end Go.Proofs.YtpbplpnifjbkoabGreatDoor

namespace Go.Proofs.YtpbplpnifjbkoabGreatDoor
open Go.RowKit
open Go.Maps (Keyed int_keyed)

theorem figs_dec (n : Nat) : Lib.decDigits n = figs n := by
  induction n using Nat.strongRecOn with
  | _ n ih =>
    unfold Lib.decDigits figs
    by_cases h : n < 10
    · rw [dif_pos h, if_pos h]
    · rw [dif_neg h, if_neg h, ih (n / 10) (by omega)]
theorem letter_conv (w : World) (n : Nat) : (convert 35 9 (.slice (some ⟨w.heap.size, 0, none⟩) 1 1)).run Tryz.prog (w.alloc (.cells #[.int .u8 (97 + (n : Int) % 26)] 5)) =
    .ok (.string (bs [UInt8.ofNat (97 + n % 26)])) (w.alloc (.cells #[.int .u8 (97 + (n : Int) % 26)] 5)) := by
  have hb := block_alloc w (.cells #[.int .u8 (97 + (n : Int) % 26)] 5)
  have hc := cell_of_block hb 0
  refine run_convert_bytes_back _ 35 9 5 ⟨w.heap.size, 0, none⟩ 1 [UInt8.ofNat (97 + n % 26)] (by kernel_rfl) (by kernel_rfl) (by kernel_rfl) fun j hj => ?_
  have hj0 : j = 0 := by simpa using hj
  subst hj0
  have ha : (⟨w.heap.size, 0, none⟩ : Addr).add 0 = ⟨w.heap.size, 0, none⟩ := by simp [Addr.add]
  rw [ha, hc]
  have : (UInt8.ofNat (97 + n % 26)).toNat = 97 + n % 26 := by simp; omega
  simp only [List.getElem_cons_zero, this]
  simp

theorem figs_len {n : Nat} (h : n < 100) : (figs n).length ≤ 2 := by
  unfold figs
  by_cases h1 : n < 10
  · rw [if_pos h1]; simp
  · rw [if_neg h1]
    unfold figs
    rw [if_pos (by omega)]
    simp

set_option maxRecDepth 100000 in
theorem letters_any (n : Nat) (hn : n < 2600) (w : World) : Calls Tryz.prog 100 #[.int .i64 n] w fun e w' => e = .returned (.string (bs (letter n))) ∧ Keeps [] w w' := by
  have hcv := letter_conv w n
  obtain ⟨c, hc⟩ : ∃ c, UInt8.ofNat (97 + n % 26) = c := ⟨_, rfl⟩
  rw [hc] at hcv
  have hk := (Keeps.refl [] w).alloc (.cells #[.int .u8 (97 + (n : Int) % 26)] 5)
  have HK := Lib.hid hk
  clear hk
  by_cases h : n < 26
  · have hd : decide ((n : Int) ≥ 26) = false := by simp; omega
    have HL := Lib.hid (show letter n = [c] by unfold letter; rw [if_pos h, hc])
    clear hc
    go_enter Tryz.func100, Tryz.ntmps100
    go_wp2
    go_ret
    exact ⟨by rw [HL.out]; rfl, HK.out⟩
  · have hd : decide ((n : Int) ≥ 26) = true := by simp; omega
    have hdv : (n : Int) / 26 = ((n / 26 : Nat) : Int) := by omega
    have hI := Tryz.strconv_Itoa_small (n / 26) (by omega) (w.alloc (.cells #[.int .u8 (97 + (n : Int) % 26)] 5))
    rw [← hdv, figs_dec] at hI
    have HI := Lib.hid hI
    have HL := Lib.hid (show (bs [c] : ByteArray) ++ bs (figs (n / 26)) = bs (letter n) by
      unfold letter
      rw [if_neg h, hc]
      apply ba_ext
      simp [bs])
    have hs : ¬ 9223372036854775807 < (bs [c]).size + (bs (figs (n / 26))).size := by
      have := figs_len (n := n / 26) (by omega)
      simp only [bs_size, List.length_cons, List.length_nil]
      omega
    clear hdv hc hI
    go_enter Tryz.func100, Tryz.ntmps100
    go_wp2_with fail
    refine HI.out.mono ?_
    rintro e w' ⟨rfl, rfl⟩
    go_wp2
    go_ret
    exact ⟨congrArg (fun b => Ending.returned (.string b)) HL.out, HK.out⟩

/-! ### Names given as variables are met -/
theorem ne_of_obj' {w : World} {a b : Nat} {o o' : Obj} (h : w.heap[a]? = some o) (h' : w.heap[b]? = some o') (hne : o ≠ o') : a ≠ b := by
  rintro rfl
  rw [h] at h'
  exact hne (by simpa using h')
theorem uInt : Tryz.prog.underlying 3 = some (.int .i64) := by kernel_rfl
theorem uMet : Tryz.prog.underlying 225 = some (.map 3 3) := by kernel_rfl
theorem zInt (w : World) : (zeroValue 3).run Tryz.prog w = .ok (.int .i64 0) w := by kernel_rfl
theorem lawInt : Keyed Tryz.prog 3 := int_keyed uInt
theorem keyInt {n : Int} (h0 : 0 ≤ n) (h1 : n ≤ 1000000000) : keyOf Tryz.prog 3 (.int .i64 n) = some (.int .i64 n) := Maps.keyOf_int_mk uInt (WalkArith.wf_i64 (by omega))

/-- The map of variables that were met, in that order. -/
def MetAt (w : World) (b : Nat) (l : List Nat) : Prop :=
  ∃ D, w.ownsMap (H := Unit) Tryz.prog 3 (plainElem Tryz.prog 3) b l.length D ∧ Maps.size D = l.length ∧ ∀ n : Nat, Maps.has D (.int .i64 n) = decide (n ∈ l) ∧ (n ∈ l → D.atKey (.int .i64 n) (.lit (.int .i64 0)) = .lit (.int .i64 (l.idxOf n)))
theorem MetAt.made (w : World) : MetAt (w.alloc (.map #[] 0)) w.heap.size [] := ⟨_, World.ownsMap_made _ _ _ _, rfl, fun n => ⟨rfl, fun h => by cases h⟩⟩
theorem MetAt.same {w w' : World} {b : Nat} {l : List Nat} (h : MetAt w b l) (hb : w'.heap[b]? = w.heap[b]?) : MetAt w' b l := by
  obtain ⟨D, ⟨es, clock, h1, h2⟩, h3⟩ := h
  exact ⟨D, ⟨es, clock, hb.trans h1, h2⟩, h3⟩
theorem MetAt.obj {w : World} {b : Nat} {l : List Nat} (h : MetAt w b l) : ∃ es cl, w.heap[b]? = some (.map es cl) := by
  obtain ⟨D, ⟨es, clock, h1, h2⟩, h3⟩ := h
  exact ⟨es, clock, h1⟩
theorem MetAt.look {w : World} {b : Nat} {l : List Nat} (h : MetAt w b l) (n : Nat) (hn : n ≤ 1000000000) : ∃ c : Int, (n ∈ l → c = l.idxOf n) ∧
    (Instr.lookup 225 (.map (some b)) (.int .i64 n) true).run Tryz.prog w = .ok (.tuple #[.int .i64 c, .bool (decide (n ∈ l))]) w := by
  obtain ⟨D, h1, h2, h3⟩ := h
  obtain ⟨v, ps, hrun, hv⟩ := h1.look_ok lawInt uMet (zInt w) (zd := .lit (.int .i64 0)) (zp := []) (plainElem_int uInt (by decide)) (keyInt (n := n) (by omega) (by omega))
  obtain ⟨c, rfl, hc, _⟩ := plainElem_int_inv uInt hv
  rw [(h3 n).1] at hrun
  refine ⟨c, fun hm => ?_, hrun⟩
  rw [(h3 n).2 hm] at hc
  simpa using (congrArg Prod.fst hc).symm
theorem MetAt.len {w : World} {b : Nat} {l : List Nat} (h : MetAt w b l) (ty : TypeId) : (Builtin.len_ #[225] ty #[.map (some b)]).run Tryz.prog w = .ok (.int .i64 l.length) w := by
  obtain ⟨D, h1, h2, h3⟩ := h
  rw [h1.len uMet ty, h2]
theorem MetAt.store {w : World} {b : Nat} {l : List Nat} (h : MetAt w b l) (n : Nat) (hn : n ≤ 1000000000) (hx : n ∉ l) (hl : l.length ≤ 100000) :
    ∃ w', (Instr.mapUpdate 225 (.map (some b)) (.int .i64 n) (.int .i64 l.length)).run Tryz.prog w = .ok () w' ∧ MetAt w' b (l ++ [n]) ∧ w.grownBy w' (some b) := by
  obtain ⟨D, h1, h2, h3⟩ := h
  obtain ⟨w', hrun, h4, h5⟩ := h1.update lawInt uMet (by unfold maxLen; omega) (keyInt (n := n) (by omega) (by omega)) (plainElem_int (a := (l.length : Int)) uInt (WalkArith.wf_i64 (by omega)))
  have hk : WideAt.IsKeyLit (.int .i64 (n : Int)) := by simp [WideAt.IsKeyLit]
  refine ⟨w', hrun, ⟨_, by simpa using h4, ?_, fun k => ⟨?_, fun hm => ?_⟩⟩, h5⟩
  · rw [Maps.size_put (h1.tidy lawInt), (h3 n).1]
    simp [hx, h2]
  · by_cases hkn : k = n
    · subst hkn; rw [Maps.has_put_same h1.isMap hk]; simp
    · rw [Maps.has_put_other (by simp; omega), (h3 k).1]; simp [hkn]
  · by_cases hkn : k = n
    · subst hkn; rw [Maps.atKey_put_same h1.isMap hk]; simp [List.idxOf_append, hx]
    · have hm' : k ∈ l := by simpa [hkn] using hm
      rw [Maps.atKey_put_other (by simp; omega), (h3 k).2 hm', List.idxOf_append, if_pos hm']

/-- The state of such a name giver. -/
def NmSt (bx mb : Nat) (l : List Nat) (w : World) : Prop := w.heap[bx]? = some (.cells #[.map (some mb)] 225 (0, 0)) ∧ MetAt w mb l
theorem NmSt.keep [Inhabited Low] {bx mb : Nat} {l : List Nat} {w w' : World} {M : List Nat} (h : NmSt bx mb l w) (hk : KV M w w') (h1 : bx ∉ M) (h2 : mb ∉ M) : NmSt bx mb l w' := by
  obtain ⟨es, cl, ho⟩ := h.2.obj
  exact ⟨hk.blk h.1 h1 (by simp), h.2.same ((hk.blk ho h2 (by simp)).trans ho.symm)⟩
theorem namer_any (w : World) : Calls Tryz.prog 57 #[] w fun e w' => e = .returned (.func (.func 99) #[] #[.pointer (some ⟨w.heap.size + 1, 0, none⟩)]) ∧ NmSt (w.heap.size + 1) w.heap.size [] w' ∧ Keeps [] w w' := by
  have hmm := @run_makeMap Tryz.prog
  have hmf : ∀ (fn : Fn) (first cap : Array Value) (w : World), (Instr.makeFunc fn first cap).run Tryz.prog w = .ok (.func fn first cap) w := fun _ _ _ _ => rfl
  go_enter Tryz.func57, Tryz.ntmps57
  go_wp2_with fail
  go_ret
  have hb := block_alloc (w.alloc (.map #[] 0)) (.cells #[.map (some w.heap.size)] 225)
  have hs : (w.alloc (.map #[] 0)).heap.size = w.heap.size + 1 := by simp
  rw [hs] at hb
  exact ⟨rfl, ⟨hb, (MetAt.made w).same (Below.heap_alloc _ _ _ (by simp))⟩, ((Keeps.refl [] w).alloc _).alloc _⟩

set_option maxRecDepth 100000 in
theorem namer1_any [Inhabited Low] (bx mb vb : Nat) (l : List Nat) (n : Nat) (hn : n ≤ 1000000000) (hl : l.length < 2000) (u : Value) (nm : ByteArray) (w : World) (hb : w.heap[vb]? = some (varO n u nm)) (h : NmSt bx mb l w) :
    Calls Tryz.prog 99 #[.pointer (some ⟨vb, 0, none⟩), .pointer (some ⟨bx, 0, none⟩)] w fun e w' => e = .returned (.string (bs (letter (l.idxOf n)))) ∧ NmSt bx mb (met n l) w' ∧ KV [mb] w w' := by
  have c0 : w.cell? ⟨bx, 0, none⟩ = some (.map (some mb)) := cell_of_block h.1 0
  have v0 : w.cell? ⟨vb, 0, none⟩ = some (.int .i64 n) := cell_of_block hb 0
  have h1 : MetAt w.drew mb l := h.2.same rfl
  obtain ⟨c, hc, hlk⟩ := h1.look n hn
  have HST := Lib.hid h
  by_cases hm : n ∈ l
  · obtain rfl := hc hm
    have hd : decide (n ∈ l) = true := by simpa using hm
    rw [hd] at hlk
    have HM := Lib.hid hm
    have HL := Lib.hid (letters_any (l.idxOf n) (by have := List.idxOf_lt_length_of_mem hm; omega) w.drew)
    clear h hb h1 hm hd hc
    go_enter Tryz.func99, Tryz.ntmps99
    go_wp2_with fail
    go_region
    go_wp2_with fail
    refine HL.out.mono ?_
    rintro e w2 ⟨rfl, hk⟩
    go_wp2
    go_ret
    have hkk := (((Keeps.refl [] w).drew).trans0 hk).kv0
    refine ⟨rfl, ?_, hkk.mono (by simp)⟩
    have hmet : met n l = l := by simp [met, HM.out]
    rw [hmet]
    exact HST.out.keep hkk (by simp) (by simp)
  · have hd : decide (n ∈ l) = false := by simpa using hm
    rw [hd] at hlk
    have HM := Lib.hid hm
    have h2 : MetAt w.drew.drew mb l := h.2.same rfl
    have hln := h1.len 3
    obtain ⟨w3, hrun, hm3, hg3⟩ := h2.store n hn hm (by omega)
    have HL := Lib.hid (letters_any l.length (by omega) w3)
    have HM3 := Lib.hid hm3
    have HG3 := Lib.hid hg3
    have c0' : w.drew.cell? ⟨bx, 0, none⟩ = some (.map (some mb)) := c0
    clear h hb h1 h2 hm hd hc hm3 hg3
    go_enter Tryz.func99, Tryz.ntmps99
    go_wp2_with fail
    go_region
    go_wp2_with fail
    go_region
    all_goals
      go_wp2_with fail
      refine HL.out.mono ?_
      rintro e w4 ⟨rfl, hk⟩
      go_wp2
      go_ret
      obtain ⟨es, cl, ho⟩ := HST.out.2.obj
      have hbm : bx ≠ mb := ne_of_obj' HST.out.1 ho (by simp)
      have hk3 : Keeps [mb] w w3 := ((Keeps.refl [mb] w).drew.drew).grown HG3.out (by rintro j e; cases e; exact .inl (by simp))
      have hk4 := hk3.trans0 hk
      have hmet : met n l = l ++ [n] := by simp [met, HM.out]
      rw [hmet, List.idxOf_eq_length HM.out]
      have hmb : mb < w3.heap.size := lt_of_some (HM3.out.obj.choose_spec.choose_spec)
      refine ⟨rfl, ⟨hk4.some HST.out.1 (by simpa using hbm), HM3.out.same (hk.block mb hmb (by simp))⟩, hk4.kv fun m hm o hmo => ?_⟩
      simp only [List.mem_singleton] at hm
      subst hm
      rw [ho] at hmo
      cases hmo
      rintro cs T z e
      cases e
end Go.Proofs.YtpbplpnifjbkoabGreatDoor

namespace Go.Proofs.YtpbplpnifjbkoabGreatDoor
open Go.RowKit

def nxL (l : List Nat) (n : Nat) : Bytes × List Nat := (letter (l.idxOf n), met n l)
theorem letter_len {n : Nat} (h : n < 2600) : (letter n).length ≤ 3 := by
  unfold letter
  by_cases h1 : n < 26
  · rw [if_pos h1]; simp
  · rw [if_neg h1]
    have := figs_len (n := n / 26) (by omega)
    simp; omega
theorem nameFn_namer [Inhabited Low] (bx mb : Nat) (_hne : bx ≠ mb) : NameFn 99 #[.pointer (some ⟨bx, 0, none⟩)] (fun n _ => n ≤ 1000000000) (NmSt bx mb) nxL List.length [mb] := by
  refine ⟨fun l w b n nm hst hb hq hl => ?_, fun b w => by kernel_rfl, fun l w w' h hk => h.keep hk (by simp) (by simp), fun l n hl => ?_, fun l n => ?_⟩
  · exact namer1_any bx mb b l n hq hl .nilIface nm w hb hst
  · have := letter_len (n := l.idxOf n) (by have := List.idxOf_le_length (l := l) (a := n); omega)
    simp only [nxL]; omega
  · simp only [nxL, met]
    split <;> simp
theorem shownF_S (t : Ty) : ∀ l, shownF nxL t l = shownS t l := by
  induction t with
  | var n => intro l; rfl
  | int => intro l; rfl
  | bool => intro l; rfl
  | list a ih => intro l; simp only [shownF, shownS, ih]
  | pair a b iha ihb => intro l; simp only [shownF, shownS, iha, ihb]
  | arr a b iha ihb => intro l; simp only [shownF, shownS, iha, ihb]
theorem canon_sh (n0 : Nat) (t : Ty) : (shownF nxL (shT n0 t) []).1 = canon t := by
  rw [shownF_S, canon_eq]
  exact canon_ren _ t fun u v _ _ h => by simpa using h

def InferCanonPost [Inhabited Low] (a : Nat → Addr) (w : World) (r : Except (Nat × Nat) (Ty × List Bytes)) (e : Ending) (w' : World) : Prop :=
  KV [] w w' ∧ match r with
  | .ok q => e = .returned (.tuple #[.string (bs (canon q.1)), .nilIface])
  | .error f => ∃ u, e = .returned (.tuple #[.string ⟨#[]⟩, u]) ∧ ErrAt a w' f u

set_option maxRecDepth 100000 in
theorem infer_canon [Inhabited Low] {a : Nat → Addr} {B : Nat} (w : World) (hG : Gl a B w) (hlo : lowB ≤ w.heap.size) (s : ByteArray) : Calls Tryz.prog 47 #[.string s] w (InferCanonPost a w (readTyp s.data.toList)) := by
  have hk0 : Keeps [] w (w.alloc (.cells #[.int .i64 0] 113)) := (Keeps.refl [] w).alloc _
  have hG0 := hG.keeps hk0 (by simp)
  have HR := Lib.hid (tread_any _ hG0 s w.heap.size 0 (block_alloc w _) (by omega) hG.hi (by simp; omega))
  have HK0 := Lib.hid hk0.kv0
  clear hG hG0 hk0 hlo
  go_enter Tryz.func47, Tryz.ntmps47
  go_wp2_with fail
  refine HR.out.mono ?_
  rintro e w1 ⟨hk, h⟩
  have HK := Lib.hid (show KV [] w w1 from HK0.out.trans hk (by simp))
  cases hr : readTyp s.data.toList with
  | error f =>
    rw [hr] at h
    obtain ⟨v, m, u, rfl, he⟩ := h
    obtain ⟨t, p, rfl⟩ := errAt_shape he
    have HE := Lib.hid he
    have HRE := Lib.hid hr
    clear he hk hr HR
    go_wp2
    go_ret2
    refine ⟨HK.out, ?_⟩
    rw [HRE.out]
    exact ⟨_, rfl, HE.out⟩
  | ok q =>
    rw [hr] at h
    obtain ⟨v, m, rfl, hv, hav⟩ := h
    have hok := readTyp_ok hr
    have HOK := Lib.hid hok
    have HRE := Lib.hid hr
    have HV := Lib.hid hv
    obtain ⟨vt, vp, rfl⟩ : ∃ vt vp, v = .iface vt vp := by rcases hv.shape with ⟨_, rfl⟩ | ⟨_, rfl⟩ <;> exact ⟨_, _, rfl⟩
    clear hk hr HR hv hav hok
    go_wp2_with fail
    refine (namer_any w1).mono ?_
    rintro e w2 ⟨rfl, hst, hk⟩
    have HV2 := Lib.hid (((hk.kv0.td HV.out).ty).mono (Q' := fun n _ => n ≤ 1000000000) (fun n s ⟨h1, x, h2, h3⟩ => by
      have := (List.getElem?_eq_some_iff.1 h2).1
      have := HOK.out.few
      omega))
    have hsz : (shT 0 q.1).size ≤ 120 := by rw [ren_size]; exact HOK.out.size
    have HS := Lib.hid (showt_any (nameFn_namer (w1.heap.size + 1) w1.heap.size (by omega)) (shT 0 q.1) [] w2 _ HV2.out hst (by simp; omega))
    have HK2 := Lib.hid (HK.out.trans0 hk.kv0)
    have hsz1 := HK.out.size
    clear hst hk hsz
    go_wp2_with fail
    refine HS.out.mono ?_
    rintro e w3 ⟨rfl, _, hk⟩
    rw [canon_sh]
    go_wp2
    go_ret2
    refine ⟨HK2.out.trans hk (by simp; omega), ?_⟩
    rw [HRE.out]
    rfl

def PlainCanonPost [Inhabited Low] (w : World) (r : Except (Nat × Nat) (Ty × List Bytes)) (e : Ending) (w' : World) : Prop :=
  KV [] w w' ∧ e = .returned (match r with
    | .ok q => .tuple #[.string (bs (canon q.1)), faultV 0 0 ⟨#[]⟩ 0 0]
    | .error f => .tuple #[.string ⟨#[]⟩, faultV f.1 (placeOf f) ⟨#[]⟩ 0 0])

set_option maxRecDepth 100000 in
set_option maxHeartbeats 4000000 in
theorem plain_canon [Inhabited Low] {a : Nat → Addr} {B : Nat} (w : World) (hG : Gl a B w) (hlo : lowB ≤ w.heap.size) (s : ByteArray) : Calls Tryz.prog 21 #[.string s] w (PlainCanonPost w (readTyp s.data.toList)) := by
  have hk0 : Keeps [] w (w.alloc (.cells #[.int .i64 0, .int .i64 0, .string ⟨#[]⟩, .int .i64 0, .int .i64 0] 26)) := (Keeps.refl [] w).alloc _
  have hG0 := hG.keeps hk0 (by simp)
  have HR := Lib.hid (infer_canon _ hG0 (by simp; omega) s)
  have HK0 := Lib.hid hk0.kv0
  have HG := Lib.hid hG
  have HB := Lib.hid (block_alloc w (.cells #[.int .i64 0, .int .i64 0, .string ⟨#[]⟩, .int .i64 0, .int .i64 0] 26))
  clear hG hG0 hk0 hlo
  go_enter Tryz.func21, Tryz.ntmps21
  go_wp2_with fail
  refine HR.out.mono ?_
  rintro e w1 ⟨hk, h⟩
  have HK := Lib.hid (HK0.out.trans0 hk)
  have HB1 := Lib.hid (hk.blk HB.out (by simp) (by simp))
  clear hk HR
  cases hr : readTyp s.data.toList with
  | error f =>
    rw [hr] at h
    obtain ⟨u, rfl, he⟩ := h
    have HF := Lib.hid (fault_any (HG.out.kv HK.out (by simp)) he)
    obtain ⟨t, p, rfl⟩ := errAt_shape he
    clear he
    have HRE := Lib.hid hr
    clear hr
    go_wp2_with fail
    refine HF.out.mono ?_
    rintro e w2 ⟨rfl, hk2⟩
    have hb2 := hk2.some HB1.out (by simp)
    have r0 := cell_of_block hb2 0
    have r1 := cell_of_block hb2 1
    have r2 := cell_of_block hb2 2
    have r3 := cell_of_block hb2 3
    have r4 := cell_of_block hb2 4
    have f0 := free_of_block hb2 0
    have f1 := free_of_block hb2 1
    have f2 := free_of_block hb2 2
    have f3 := free_of_block hb2 3
    have f4 := free_of_block hb2 4
    have HB2 := Lib.hid hb2
    have HK2 := Lib.hid (HK.out.trans0 hk2.kv0)
    clear hb2 hk2 HB HB1
    go_wp2_with fail
    refine bodyPost_ret (v := .tuple #[.string ⟨#[]⟩, faultV f.1 (placeOf f) ⟨#[]⟩ 0 0]) ?_ rfl ?_
    · simp [results, Tryz.results21, go_sem, r0, r1, r2, r3, r4]
    · refine ⟨HK2.out.frame (M' := [w.heap.size]) (by repeat (first | exact Keeps.refl _ _ | refine Keeps.setCell ?_ (Or.inl (by simp)) _)) (by simp) (by simp; rintro o ho; rw [HB2.out] at ho; cases ho; exact plainO_cells (by decide)), by first | rfl | rw [HRE.out]⟩
  | ok q =>
    rw [hr] at h
    obtain rfl := h
    have HRE := Lib.hid hr
    clear hr
    go_wp2_with fail
    refine (fault_nil _).mono ?_
    rintro e w2 ⟨rfl, hk2⟩
    have hb2 := hk2.some HB1.out (by simp)
    have r0 := cell_of_block hb2 0
    have r1 := cell_of_block hb2 1
    have r2 := cell_of_block hb2 2
    have r3 := cell_of_block hb2 3
    have r4 := cell_of_block hb2 4
    have f0 := free_of_block hb2 0
    have f1 := free_of_block hb2 1
    have f2 := free_of_block hb2 2
    have f3 := free_of_block hb2 3
    have f4 := free_of_block hb2 4
    have HB2 := Lib.hid hb2
    have HK2 := Lib.hid (HK.out.trans0 hk2.kv0)
    clear hb2 hk2 HB HB1
    go_wp2_with fail
    refine bodyPost_ret (v := .tuple #[.string (bs (canon q.1)), faultV 0 0 ⟨#[]⟩ 0 0]) ?_ rfl ?_
    · simp [results, Tryz.results21, go_sem, r0, r1, r2, r3, r4]
    · refine ⟨HK2.out.frame (M' := [w.heap.size]) (by repeat (first | exact Keeps.refl _ _ | refine Keeps.setCell ?_ (Or.inl (by simp)) _)) (by simp) (by simp; rintro o ho; rw [HB2.out] at ho; cases ho; exact plainO_cells (by decide)), by first | rfl | rw [HRE.out]⟩
end Go.Proofs.YtpbplpnifjbkoabGreatDoor

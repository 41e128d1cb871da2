/-
  Scheme.New, whole; engine.part at names, by contracts.
-/
import Derived.Test.YtpbplpnifjbkoabGreatDoorNewx
import Derived.Test.YtpbplpnifjbkoabGreatDoorOfx
import Derived.Deep.RegionLaw
import Derived.Test.YtpbplpnifjbkoabGreatDoorPartx
namespace Go.Proofs.YtpbplpnifjbkoabGreatDoor
open Go.RowKit

theorem newSt_made [Inhabited Low] [Inhabited Bar] {ab : Nat} {tt : TypeId} {tp : Value} {mm : Option Nat} {s : Sch} {vb : List Nat} {S : Sub} {w : World} (hE : Eng ab vb S w) (hs : SchAt vb S w s (.iface tt tp) (.map mm)) :
    NewSt ab (w.heap.size + 1 + 1) w.heap.size (w.heap.size + 1 + 1 + 1) (w.heap.size + 1) (.iface tt tp) (.map mm) s.all vb S [] ((((w.alloc (.cells #[.iface tt tp, .map mm] 119)).alloc (.cells #[.pointer (some ⟨ab, 0, none⟩)] 111)).alloc (.map #[] 0)).alloc (.cells #[.map (some (w.heap.size + 1 + 1))] 320)) := by
  have hk : Keeps [] w ((((w.alloc (.cells #[.iface tt tp, .map mm] 119)).alloc (.cells #[.pointer (some ⟨ab, 0, none⟩)] 111)).alloc (.map #[] 0)).alloc (.cells #[.map (some (w.heap.size + 1 + 1))] 320)) :=
    ((((Keeps.refl [] w).alloc _).alloc _).alloc _).alloc _
  have z1 : (w.alloc (.cells #[.iface tt tp, .map mm] 119)).heap.size = w.heap.size + 1 := by simp
  have z2 : ((w.alloc (.cells #[.iface tt tp, .map mm] 119)).alloc (.cells #[.pointer (some ⟨ab, 0, none⟩)] 111)).heap.size = w.heap.size + 1 + 1 := by simp
  have z3 : (((w.alloc (.cells #[.iface tt tp, .map mm] 119)).alloc (.cells #[.pointer (some ⟨ab, 0, none⟩)] 111)).alloc (.map #[] 0)).heap.size = w.heap.size + 1 + 1 + 1 := by simp
  have b1 := block_alloc (w.alloc (.cells #[.iface tt tp, .map mm] 119)) (.cells #[.pointer (some ⟨ab, 0, none⟩)] 111)
  have b2 := PMapE.made ((w.alloc (.cells #[.iface tt tp, .map mm] 119)).alloc (.cells #[.pointer (some ⟨ab, 0, none⟩)] 111))
  have b3 := block_alloc (((w.alloc (.cells #[.iface tt tp, .map mm] 119)).alloc (.cells #[.pointer (some ⟨ab, 0, none⟩)] 111)).alloc (.map #[] 0)) (.cells #[.map (some (w.heap.size + 1 + 1))] 320)
  rw [z1] at b1
  rw [z2] at b2
  rw [z3] at b3
  refine ⟨hE.kv hk.kv0 (by simp), block_alloc_old (block_alloc_old (block_alloc_old (block_alloc w _))), b3, block_alloc_old (block_alloc_old b1), hs.2.keep hk.kv0.k0 (fun m hm => by cases hm), ?_, ⟨0, by simp, ?_⟩, by simp, fun v u h => by simp at h⟩
  · rintro mb e
    rcases hs.2 with ⟨h, _⟩ | ⟨b, n, h, hn⟩
    · rw [e] at h; cases h
    · rw [e] at h
      cases h
      obtain ⟨es, cl, ho⟩ := hn.obj
      have := lt_of_some ho
      omega
  · refine b2.same ?_
    obtain ⟨es, cl, ho⟩ := b2.obj
    exact (block_alloc_old ho).trans ho.symm

set_option maxRecDepth 100000 in
set_option maxHeartbeats 4000000 in
theorem sch_new [Inhabited Low] [Inhabited Bar] {ab : Nat} {tv m : Value} {s : Sch} {vb : List Nat} {S : Sub} {w : World} (hE : Eng ab vb S w) (hs : SchAt vb S w s tv m) {t' : Ty} {mp' : List (Nat × Nat)} {S' : Sub} (hi : inst s.all (s.t.ap S) [] S = some (t', mp', S')) :
    Calls Tryz.prog 138 #[.agg #[tv, m], .pointer (some ⟨ab, 0, none⟩)] w fun e w' =>
      ∃ v vb', e = .returned v ∧ TyE vb' w' t' v ∧ Stp [ab] vb S w vb' S' w' ∧ Eng ab vb' S' w' := by
  obtain ⟨⟨tt, tp, rfl⟩, mm, rfl⟩ := hs.shape
  have HE := Lib.hid hE
  have HS := Lib.hid hs
  have HI := Lib.hid hi
  clear hE hs hi
  go_enter Tryz.func138, Tryz.ntmps138
  have hmk : ∀ W : World, (Instr.makeMap 320 none).run Tryz.prog W = .ok (.map (some W.heap.size)) (W.alloc (.map #[] 0)) := fun W => by kernel_rfl
  go_wp2_with fail
  have hW := newSt_made HE.out HS.out
  have hk : Keeps [] w ((((w.alloc (.cells #[.iface tt tp, .map mm] 119)).alloc (.cells #[.pointer (some ⟨ab, 0, none⟩)] 111)).alloc (.map #[] 0)).alloc (.cells #[.map (some (w.heap.size + 1 + 1))] 320)) :=
    ((((Keeps.refl [] w).alloc _).alloc _).alloc _).alloc _
  refine (map_any ⟨tt, tp, rfl⟩ (s.t.ap S).size (s.t.ap S) (Nat.le_refl _) _ vb S [] _ (.iface tt tp) t' mp' S' hW (hk.kv0.te HS.out.1) HI.out).mono ?_
  rintro e w2 ⟨v', vb', rfl, hty, hst, hnew⟩
  have HT := Lib.hid hty
  have HST := Lib.hid hst
  have HNE := Lib.hid hnew.eng
  have HK := Lib.hid hk
  clear hty hst hnew hW hk hmk
  go_wp2
  go_ret
  refine ⟨v', vb', rfl, HT.out, ⟨(HK.out.kv0.k0.mono (by simp)).trans HST.out.k0 ?_, HST.out.ext, fun t v h => HST.out.ty t v (HK.out.kv0.te h)⟩, HNE.out⟩
  intro m hm
  simp only [List.mem_cons, List.not_mem_nil, or_false] at hm ⊢
  omega

set_option maxRecDepth 100000 in
set_option maxHeartbeats 4000000 in
theorem part_name [Inhabited Low] [Inhabited Bar] {a : Nat → Addr} {B lo hi gb ab fuel : Nat} {each : Value} {Mw : List Nat} {wst : List Told → World → Prop} (R : Rig a B lo hi gb ab Mw wst) {x : Bytes} {env : Env} {st : St} {s : Sch} {t' : Ty} {mp' : List (Nat × Nat)} {S' : Sub} (hl : env.lookup x = some s) (hin : inst s.all (s.t.ap st.S) [] st.S = some (t', mp', S'))
    {vb : List Nat} {w : World} {ev : Value} {b p : Nat} (I : Inv a B lo hi gb ab fuel each wst vb st env ev w)
    (hb : w.heap[b]? = some (.cells #[.int .i64 p, .string (bs x)] 210 (0, 0))) :
    Calls Tryz.prog 96 #[.pointer (some ⟨gb, 0, none⟩), ifp 207 b, ev] w (EPost a ab (ab :: Mw) wst vb st.S w (.ok (t', ⟨S', st.told⟩))) := by
  have t1 := psNameNum b
  have t2 := psName b
  have c1 := cell_of_block hb 1
  simp at c1
  have HI := Lib.hid I
  have HB := Lib.hid hb
  have HC := get_any I.env_ x
  rw [hl] at HC
  replace HC := Lib.hid HC
  have HN := Lib.hid hin
  obtain ⟨ea, rfl⟩ := I.env_.shape
  clear I hb hl hin
  go_enter Tryz.func96, Tryz.ntmps96
  go_wp2_with fail
  refine HC.out.mono ?_
  rintro e w1 ⟨hk, tv, m, rfl, hs⟩
  have HK := Lib.hid hk
  have HS := Lib.hid hs
  have HI1 := Lib.hid (HI.out.step R ((hk.kv0.mono (by simp)).stp vb st.S) (HI.out.eng.kv hk.kv0 (by simp)) (R.wat.keep _ _ _ HI.out.wat (hk.kv0.k0.mono (by simp))))
  obtain ⟨⟨tt, tp, rfl⟩, mm, rfl⟩ := hs.shape
  have g0 := cell_of_block HI1.out.gbk 0
  simp at g0
  clear hk hs c1
  go_wp2_with fail
  have hgz : gb < w1.heap.size := lt_of_some HI1.out.gbk
  have hkv : KV [] w1 (w1.alloc (.cells #[.iface tt tp, .map mm] 119)).drew := ((Keeps.refl [] w1).alloc _).drew.kv0
  have HKV := Lib.hid hkv
  have HCALL := Lib.hid (sch_new (HI1.out.eng.kv hkv (by simp)) (show SchAt vb st.S _ s (.iface tt tp) (.map mm) from ⟨hkv.te HS.out.1, HS.out.2.keep hkv.k0 (fun m hm => by cases hm)⟩) HN.out)
  clear hkv HC
  go_region_law (go_simp; go_at_call 138; refine HCALL.out.mono ?_; rintro e w3 ⟨v', vb', rfl, hty, hst, hen⟩; have HT := Lib.hid hty; have HST := Lib.hid hst; have HEN := Lib.hid hen; obtain ⟨vt, vp, rfl⟩ : ∃ vt vp, v' = .iface vt vp := (by rcases hty.shape with ⟨_, rfl⟩ | ⟨_, rfl⟩ <;> exact ⟨_, _, rfl⟩); clear hty hst hen)
  all_goals
    go_wp2
    go_ret
    exact ⟨_, vb', rfl, by rw [TyE.self_ap HEN.out HT.out]; exact HT.out, (((HK.out.kv0.trans0 ((Keeps.refl [] w1).alloc _).drew.kv0).mono (by simp)).stp vb st.S).trans (HST.out.mono (by simp)), HEN.out, R.wat.keep _ _ _ HI.out.wat ((HK.out.kv0.k0.mono (by simp)).transM ((HKV.out.k0.mono (by simp)).transM HST.out.k0))⟩
theorem bind_sized' {m : M Ty} {r : Rz} (h : m.bind sized = some r) : ∃ r0, m = some r0 ∧ r = sizedR r0 := by
  cases m with
  | none => cases h
  | some r0 =>
    refine ⟨r0, rfl, ?_⟩
    rcases r0 with p | ⟨t, s⟩
    · cases h; rfl
    · simp only [M.bind, sized] at h
      simp only [sizedR]
      split at h <;> (cases h; rename_i hc; first | rw [if_pos hc] | rw [if_neg hc])
section
variable [Inhabited Low] [Inhabited Bar] {a : Nat → Addr} {B lo hi gb ab fuel uf : Nat} {each : Value} {watch : Option Nat} {Mw : List Nat} {wst : List Told → World → Prop}
theorem of_name (R : Rig a B lo hi gb ab Mw wst) (p : Nat) (x : Bytes) : OfOK a B lo hi gb ab fuel uf each watch Mw wst (.name p x) := by
  intro env st r hr vb w xv ev I hx
  obtain ⟨_, _, b, _, _, rfl, hb⟩ := hx
  simp only [ofE] at hr
  cases hl : env.lookup x with
  | none => rw [hl] at hr; cases hr
  | some s =>
    rw [hl] at hr
    cases hin : inst s.all (s.t.ap st.S) [] st.S with
    | none => simp only [hin] at hr; cases hr
    | some q =>
      obtain ⟨t', mp', S'⟩ := q
      simp only [hin] at hr
      obtain ⟨r0, h0, rfl⟩ := bind_sized' (m := some (.ok (t', ⟨S', st.told⟩))) (r := r) hr
      cases h0
      exact iof_any I.gl R.bl R.mb R.wat (part_name R hl hin I hb)
end
end Go.Proofs.YtpbplpnifjbkoabGreatDoor

namespace Go.Proofs.YtpbplpnifjbkoabGreatDoor
open Go.RowKit

/-- No let rec in it. -/
def noRec : Exp → Bool
  | .name _ _ => true
  | .num _ _ => true
  | .lam _ _ b => noRec b
  | .app _ f a => noRec f && noRec a
  | .pair _ f a => noRec f && noRec a
  | .letin _ _ f a => noRec f && noRec a
  | .cond _ c f a => noRec c && (noRec f && noRec a)
  | _ => false
section
variable [Inhabited Low] [Inhabited Bar] {a : Nat → Addr} {B lo hi gb ab fuel uf : Nat} {each : Value} {watch : Option Nat} {Mw : List Nat} {wst : List Told → World → Prop}
theorem of_norec (R : Rig a B lo hi gb ab Mw wst) (x : Exp) (hx : noRec x = true) : OfOK a B lo hi gb ab fuel uf each watch Mw wst x := by
  induction x with
  | name p s => exact of_name R p s
  | num p s => exact of_num R p s
  | lam p n b ih => exact of_lam R (ih (by simpa [noRec] using hx))
  | app p f g ihf ihg =>
    simp only [noRec, Bool.and_eq_true] at hx
    exact of_app R (ihf hx.1) (ihg hx.2)
  | pair p f g ihf ihg =>
    simp only [noRec, Bool.and_eq_true] at hx
    exact of_pair R (ihf hx.1) (ihg hx.2)
  | letin p n f g ihf ihg =>
    simp only [noRec, Bool.and_eq_true] at hx
    exact of_let R (ihf hx.1) (ihg hx.2)
  | cond p c f g ihc ihf ihg =>
    simp only [noRec, Bool.and_eq_true] at hx
    exact of_cond R (ihc hx.1) (ihf hx.2.1) (ihg hx.2.2)
  | recr p g _ => cases hx
  | bnd n b g _ _ => cases hx
  | fin b _ => cases hx
end
end Go.Proofs.YtpbplpnifjbkoabGreatDoor

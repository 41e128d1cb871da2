/-
  infer's engine: fail, equal, of (by what part does), by contracts.
-/
import Derived.Test.YtpbplpnifjbkoabGreatDoorNewx
import Derived.Test.YtpbplpnifjbkoabGreatDoorNames
import Derived.Test.YtpbplpnifjbkoabGreatDoorTred
import Derived.Test.YtpbplpnifjbkoabGreatDoorExpx
namespace Go.Proofs.YtpbplpnifjbkoabGreatDoor
open Go.RowKit

/-- What an inference panics with. -/
abbrev failV (v : Value) : Value := .iface 127 (.agg #[v])
theorem ifail_any (t : TypeId) (p : Value) (w : World) : Calls Tryz.prog 98 #[.iface t p] w fun e w' => e = .panicked [{ v := failV (.iface t p), recovered := false }] ∧ w = w' := by
  go_enter Tryz.func98, Tryz.ntmps98
  go_wp2
  exact ⟨rfl, rfl, rfl⟩
theorem K0.gl [Inhabited Low] {M : List Nat} {w w' : World} {a : Nat → Addr} {B : Nat} (k : K0 M w w') (h : Gl a B w) (hB : B ≤ lowB) (hM : ∀ m ∈ M, B ≤ m) : Gl a B w' :=
  h.keep (Nat.le_trans h.hi k.size) fun i hi => k.low i (by omega) (Nat.lt_of_lt_of_le hi h.hi) fun hm => by have := hM i hm; omega
/-- The engine's own block; who watches. -/
def EngB (gb ab fuel : Nat) (each : Value) (w : World) : Prop := w.heap[gb]? = some (.cells #[.pointer (some ⟨ab, 0, none⟩), .int .i64 fuel, each] 130)

def EqPost [Inhabited Low] [Inhabited Bar] (a : Nat → Addr) (ab : Nat) (vb : List Nat) (S : Sub) (w : World) (r : Option Sub) (e : Ending) (w' : World) : Prop := match r with
  | some S' => e = .returned (.tuple #[]) ∧ Stp [] vb S w vb S' w' ∧ Eng ab vb S' w'
  | none => e = .panicked [{ v := failV (sent a 3), recovered := false }] ∧ K0 [] w w'
set_option maxRecDepth 100000 in
set_option maxHeartbeats 4000000 in
theorem equal_any [Inhabited Low] [Inhabited Bar] {a : Nat → Addr} {B : Nat} {ab f : Nat} {vb : List Nat} {S : Sub} {w : World} {g va vc : Value} {ta tb : Ty} {r : Option Sub} (hG : Gl a B w) (hB : B ≤ lowB) (hE : Eng ab vb S w) (ha : TyE vb w (ta.ap S) va) (hc : TyE vb w (tb.ap S) vc) (hun : unF f S ta tb = some r) :
    Calls Tryz.prog 141 #[g, va, vc] w (EqPost a ab vb S w r) := by
  have HCALL := Lib.hid (unify_any ab f S ta tb r hun vb w va vc hE ha hc)
  have HG := Lib.hid hG
  clear hG hE ha hc hun
  go_enter Tryz.func141, Tryz.ntmps141
  go_wp2_with fail
  refine HCALL.out.mono ?_
  intro e w1 hp
  cases r with
  | some S' =>
    obtain ⟨rfl, hst, he⟩ := hp
    have HST := Lib.hid hst
    have HE := Lib.hid he
    clear hst he
    go_wp2
    exact bodyPost_end (results_none Tryz.results141 _ _ _) rfl ⟨rfl, HST.out, HE.out⟩
  | none =>
    obtain ⟨rfl, hk⟩ := hp
    have HK := Lib.hid hk
    have g3 := (hk.gl HG.out hB (by simp)).v3
    clear hk
    go_wp2_with fail
    refine (ifail_any _ _ w1).mono ?_
    rintro e w2 ⟨rfl, rfl⟩
    go_wp2
    exact ⟨rfl, rfl, HK.out⟩

/-- What a step of the inference comes to: an answer and the state behind it, or a fault. -/
abbrev Rz := Except (Nat × List Told) (Ty × St)
/-- What a watcher keeps is untouched by types. -/
structure Wat [Inhabited Low] (ab : Nat) (Mw : List Nat) (wst : List Told → World → Prop) : Prop where
  keep : ∀ l w w', wst l w → K0 [ab] w w' → wst l w'
  side : ∀ l w, wst l w → Side Mw w
  fill : ∀ l (w w' : World) (Y : List Nat), wst l w → Keeps Y w w' → (∀ y ∈ Y, ∃ cs T z, w.heap[y]? = some (.cells cs T z) ∧ (T = 187 ∨ T = 116 ∨ T = 119 ∨ T = 323)) → wst l w'
def EPost [Inhabited Low] [Inhabited Bar] (a : Nat → Addr) (ab : Nat) (M : List Nat) (wst : List Told → World → Prop) (vb : List Nat) (S : Sub) (w : World) (r : Rz) (e : Ending) (w' : World) : Prop := match r with
  | .ok (t, st') => ∃ v vb', e = .returned v ∧ TyE vb' w' (t.ap st'.S) v ∧ Stp M vb S w vb' st'.S w' ∧ Eng ab vb' st'.S w' ∧ wst st'.told w'
  | .error (f, l) => ∃ k, k < 8 ∧ f = k + 4 ∧ e = .panicked [{ v := failV (sent a k), recovered := false }] ∧ K0 M w w' ∧ wst l w'
def sizedR (r : Rz) : Rz := match r with
  | .ok (t, st) => if 120 < (t.ap st.S).size then .error (8, st.told) else .ok (t, st)
  | .error p => .error p
set_option maxRecDepth 100000 in
set_option maxHeartbeats 4000000 in
theorem iof_any [Inhabited Low] [Inhabited Bar] {a : Nat → Addr} {B ab : Nat} {M Mw vb : List Nat} {S : Sub} {wst : List Told → World → Prop} {w : World} {g x ev : Value} {r : Rz} (hG : Gl a B w) (hB : B ≤ lowB) (hM : ∀ m ∈ M, B ≤ m) (hW : Wat ab Mw wst)
    (hp : Calls Tryz.prog 96 #[g, x, ev] w (EPost a ab M wst vb S w r)) :
    Calls Tryz.prog 56 #[g, x, ev] w (EPost a ab M wst vb S w (sizedR r)) := by
  have HCALL := Lib.hid hp
  have HG := Lib.hid hG
  clear hG hp
  go_enter Tryz.func56, Tryz.ntmps56
  go_wp2_with fail
  refine HCALL.out.mono ?_
  intro e w1 hp
  rcases r with ⟨f, l⟩ | ⟨t, st⟩
  · obtain ⟨k, hk, hf, rfl, hk0, hw⟩ := hp
    go_wp2
    exact ⟨rfl, k, hk, rfl, rfl, hk0, hw⟩
  · obtain ⟨v, vb', rfl, hty, hst, he, hw⟩ := hp
    have HTY := Lib.hid hty
    have HST := Lib.hid hst
    have HE := Lib.hid he
    have HW := Lib.hid hw
    have HSZ := Lib.hid (size_any (t.ap st.S).size (t.ap st.S) (Nat.le_refl _) (fun _ _ => True) w1 v 120 hty.tv (by omega) (by omega))
    obtain ⟨vt, vp, rfl⟩ : ∃ vt vp, v = .iface vt vp := by rcases hty.shape with ⟨_, rfl⟩ | ⟨_, rfl⟩ <;> exact ⟨_, _, rfl⟩
    have hsb := sizeB_ok (t.ap st.S) 120
    clear hty hst he hw
    go_wp2_with fail
    refine HSZ.out.mono ?_
    rintro e w2 ⟨rfl, hk⟩
    have HK := Lib.hid hk
    have hst2 := (hk.stp vb' st.S)
    have g4 := ((HST.out.k0.transM (hk.k0.mono (by simp))).gl HG.out hB hM).v4
    clear hk
    by_cases hbig : 120 < (t.ap st.S).size
    · have hd : decide (sizeB (t.ap st.S) 120 > 120) = true := by have := hsb.2.1 (by omega); simpa using this
      have hr : sizedR (.ok (t, st)) = .error (8, st.told) := by simp only [sizedR, if_pos hbig]
      have HR := Lib.hid hr
      clear hr
      go_wp2_with fail
      refine (ifail_any _ _ w2).mono ?_
      rintro e w3 ⟨rfl, rfl⟩
      go_wp2
      refine ⟨rfl, ?_⟩
      rw [HR.out]
      exact ⟨4, by omega, rfl, rfl, HST.out.k0.transM (HK.out.k0.mono (by simp)), hW.keep _ _ _ HW.out (HK.out.k0.mono (by simp))⟩
    · have hd : decide (sizeB (t.ap st.S) 120 > 120) = false := by have := hsb.1 (by omega); simp; omega
      have hr : sizedR (.ok (t, st)) = .ok (t, st) := by simp only [sizedR, if_neg hbig]
      have HR := Lib.hid hr
      clear hr
      go_wp2
      go_ret
      rw [HR.out]
      exact ⟨_, vb', rfl, HK.out.te HTY.out, HST.out.trans ((HK.out.mono (by simp)).stp vb' st.S), HE.out.kv HK.out (by simp), hW.keep _ _ _ HW.out (HK.out.k0.mono (by simp))⟩
end Go.Proofs.YtpbplpnifjbkoabGreatDoor

namespace Go.Proofs.YtpbplpnifjbkoabGreatDoor
open Go.RowKit

theorem psNum (b : Nat) (w : World) : (Instr.typeAssert (ifp 251 b) 108 251 true).run Tryz.prog w = .ok (.tuple #[.pointer (some ⟨b, 0, none⟩), .bool true]) w := by kernel_rfl
theorem psNameNum (b : Nat) (w : World) : (Instr.typeAssert (ifp 207 b) 108 251 true).run Tryz.prog w = .ok (.tuple #[.pointer none, .bool false]) w := by kernel_rfl
theorem psName (b : Nat) (w : World) : (Instr.typeAssert (ifp 207 b) 108 207 true).run Tryz.prog w = .ok (.tuple #[.pointer (some ⟨b, 0, none⟩), .bool true]) w := by kernel_rfl
theorem psFunNum (b : Nat) (w : World) : (Instr.typeAssert (ifp 212 b) 108 251 true).run Tryz.prog w = .ok (.tuple #[.pointer none, .bool false]) w := by kernel_rfl
theorem psFunName (b : Nat) (w : World) : (Instr.typeAssert (ifp 212 b) 108 207 true).run Tryz.prog w = .ok (.tuple #[.pointer none, .bool false]) w := by kernel_rfl
theorem psFun (b : Nat) (w : World) : (Instr.typeAssert (ifp 212 b) 108 212 true).run Tryz.prog w = .ok (.tuple #[.pointer (some ⟨b, 0, none⟩), .bool true]) w := by kernel_rfl
theorem psAppNum (b : Nat) (w : World) : (Instr.typeAssert (ifp 261 b) 108 251 true).run Tryz.prog w = .ok (.tuple #[.pointer none, .bool false]) w := by kernel_rfl
theorem psAppName (b : Nat) (w : World) : (Instr.typeAssert (ifp 261 b) 108 207 true).run Tryz.prog w = .ok (.tuple #[.pointer none, .bool false]) w := by kernel_rfl
theorem psAppFun (b : Nat) (w : World) : (Instr.typeAssert (ifp 261 b) 108 212 true).run Tryz.prog w = .ok (.tuple #[.pointer none, .bool false]) w := by kernel_rfl
theorem psApp (b : Nat) (w : World) : (Instr.typeAssert (ifp 261 b) 108 261 true).run Tryz.prog w = .ok (.tuple #[.pointer (some ⟨b, 0, none⟩), .bool true]) w := by kernel_rfl
theorem psPairNum (b : Nat) (w : World) : (Instr.typeAssert (ifp 254 b) 108 251 true).run Tryz.prog w = .ok (.tuple #[.pointer none, .bool false]) w := by kernel_rfl
theorem psPairName (b : Nat) (w : World) : (Instr.typeAssert (ifp 254 b) 108 207 true).run Tryz.prog w = .ok (.tuple #[.pointer none, .bool false]) w := by kernel_rfl
theorem psPairFun (b : Nat) (w : World) : (Instr.typeAssert (ifp 254 b) 108 212 true).run Tryz.prog w = .ok (.tuple #[.pointer none, .bool false]) w := by kernel_rfl
theorem psPairApp (b : Nat) (w : World) : (Instr.typeAssert (ifp 254 b) 108 261 true).run Tryz.prog w = .ok (.tuple #[.pointer none, .bool false]) w := by kernel_rfl
theorem psPair (b : Nat) (w : World) : (Instr.typeAssert (ifp 254 b) 108 254 true).run Tryz.prog w = .ok (.tuple #[.pointer (some ⟨b, 0, none⟩), .bool true]) w := by kernel_rfl
theorem psIfNum (b : Nat) (w : World) : (Instr.typeAssert (ifp 257 b) 108 251 true).run Tryz.prog w = .ok (.tuple #[.pointer none, .bool false]) w := by kernel_rfl
theorem psIfName (b : Nat) (w : World) : (Instr.typeAssert (ifp 257 b) 108 207 true).run Tryz.prog w = .ok (.tuple #[.pointer none, .bool false]) w := by kernel_rfl
theorem psIfFun (b : Nat) (w : World) : (Instr.typeAssert (ifp 257 b) 108 212 true).run Tryz.prog w = .ok (.tuple #[.pointer none, .bool false]) w := by kernel_rfl
theorem psIfApp (b : Nat) (w : World) : (Instr.typeAssert (ifp 257 b) 108 261 true).run Tryz.prog w = .ok (.tuple #[.pointer none, .bool false]) w := by kernel_rfl
theorem psIfPair (b : Nat) (w : World) : (Instr.typeAssert (ifp 257 b) 108 254 true).run Tryz.prog w = .ok (.tuple #[.pointer none, .bool false]) w := by kernel_rfl
theorem psIf (b : Nat) (w : World) : (Instr.typeAssert (ifp 257 b) 108 257 true).run Tryz.prog w = .ok (.tuple #[.pointer (some ⟨b, 0, none⟩), .bool true]) w := by kernel_rfl
theorem psLetNum (b : Nat) (w : World) : (Instr.typeAssert (ifp 215 b) 108 251 true).run Tryz.prog w = .ok (.tuple #[.pointer none, .bool false]) w := by kernel_rfl
theorem psLetName (b : Nat) (w : World) : (Instr.typeAssert (ifp 215 b) 108 207 true).run Tryz.prog w = .ok (.tuple #[.pointer none, .bool false]) w := by kernel_rfl
theorem psLetFun (b : Nat) (w : World) : (Instr.typeAssert (ifp 215 b) 108 212 true).run Tryz.prog w = .ok (.tuple #[.pointer none, .bool false]) w := by kernel_rfl
theorem psLetApp (b : Nat) (w : World) : (Instr.typeAssert (ifp 215 b) 108 261 true).run Tryz.prog w = .ok (.tuple #[.pointer none, .bool false]) w := by kernel_rfl
theorem psLetPair (b : Nat) (w : World) : (Instr.typeAssert (ifp 215 b) 108 254 true).run Tryz.prog w = .ok (.tuple #[.pointer none, .bool false]) w := by kernel_rfl
theorem psLetIf (b : Nat) (w : World) : (Instr.typeAssert (ifp 215 b) 108 257 true).run Tryz.prog w = .ok (.tuple #[.pointer none, .bool false]) w := by kernel_rfl
theorem psLet (b : Nat) (w : World) : (Instr.typeAssert (ifp 215 b) 108 215 true).run Tryz.prog w = .ok (.tuple #[.pointer (some ⟨b, 0, none⟩), .bool true]) w := by kernel_rfl
theorem psRecNum (b : Nat) (w : World) : (Instr.typeAssert (ifp 218 b) 108 251 true).run Tryz.prog w = .ok (.tuple #[.pointer none, .bool false]) w := by kernel_rfl
theorem psRecName (b : Nat) (w : World) : (Instr.typeAssert (ifp 218 b) 108 207 true).run Tryz.prog w = .ok (.tuple #[.pointer none, .bool false]) w := by kernel_rfl
theorem psRecFun (b : Nat) (w : World) : (Instr.typeAssert (ifp 218 b) 108 212 true).run Tryz.prog w = .ok (.tuple #[.pointer none, .bool false]) w := by kernel_rfl
theorem psRecApp (b : Nat) (w : World) : (Instr.typeAssert (ifp 218 b) 108 261 true).run Tryz.prog w = .ok (.tuple #[.pointer none, .bool false]) w := by kernel_rfl
theorem psRecPair (b : Nat) (w : World) : (Instr.typeAssert (ifp 218 b) 108 254 true).run Tryz.prog w = .ok (.tuple #[.pointer none, .bool false]) w := by kernel_rfl
theorem psRecIf (b : Nat) (w : World) : (Instr.typeAssert (ifp 218 b) 108 257 true).run Tryz.prog w = .ok (.tuple #[.pointer none, .bool false]) w := by kernel_rfl
theorem psRecLet (b : Nat) (w : World) : (Instr.typeAssert (ifp 218 b) 108 215 true).run Tryz.prog w = .ok (.tuple #[.pointer none, .bool false]) w := by kernel_rfl
theorem psRec (b : Nat) (w : World) : (Instr.typeAssert (ifp 218 b) 108 218 true).run Tryz.prog w = .ok (.tuple #[.pointer (some ⟨b, 0, none⟩), .bool true]) w := by kernel_rfl
end Go.Proofs.YtpbplpnifjbkoabGreatDoor

namespace Go.Proofs.YtpbplpnifjbkoabGreatDoor
open Go.RowKit

/-- What does not turn while an inference goes on: the errors below B, the expression in [lo, hi), the engine gb, its counter ab, what a watcher keeps Mw. -/
structure Rig [Inhabited Low] (a : Nat → Addr) (B lo hi gb ab : Nat) (Mw : List Nat) (wst : List Told → World → Prop) : Prop where
  bl : B ≤ lowB
  hl : hi ≤ lowB
  ab_ : B ≤ ab ∧ (ab < lo ∨ hi ≤ ab)
  mw : ∀ m ∈ Mw, B ≤ m ∧ (m < lo ∨ hi ≤ m) ∧ m ≠ gb
  wat : Wat ab Mw wst
/-- What holds at a step. -/
structure Inv [Inhabited Low] [Inhabited Bar] (a : Nat → Addr) (B lo hi gb ab fuel : Nat) (each : Value) (wst : List Told → World → Prop) (vb : List Nat) (st : St) (env : Env) (ev : Value) (w : World) : Prop where
  gl : Gl a B w
  gbk : EngB gb ab fuel each w
  hi_ : hi ≤ w.heap.size
  eng : Eng ab vb st.S w
  env_ : EnvAt vb st.S w env ev
  wat : wst st.told w
theorem Rig.side [Inhabited Low] [Inhabited Bar] {a : Nat → Addr} {B lo hi gb ab fuel : Nat} {each : Value} {Mw : List Nat} {wst : List Told → World → Prop} (R : Rig a B lo hi gb ab Mw wst) {vb : List Nat} {st : St} {env : Env} {ev : Value} {w : World} (I : Inv a B lo hi gb ab fuel each wst vb st env ev w) : Side (ab :: Mw) w := by
  intro m hm
  rcases List.mem_cons.1 hm with rfl | hm
  · exact ⟨_, _, _, I.eng.cnt, by decide⟩
  · exact R.wat.side _ _ I.wat m hm
theorem Rig.expr [Inhabited Low] {a : Nat → Addr} {B lo hi gb ab : Nat} {Mw : List Nat} {wst : List Told → World → Prop} (R : Rig a B lo hi gb ab Mw wst) {w w' : World} (k : K0 (ab :: Mw) w w') (hh : hi ≤ w.heap.size) {e : Exp} {ns : List Bytes} {vs : List Value} {v : Value} (h : ExprAt w lo hi e ns vs v) : ExprAt w' lo hi e ns vs v := by
  refine ExprAt.keep (fun b h1 h2 => k.low b (by have := R.hl; omega) (by omega) fun hm => ?_) e ns vs v h
  rcases List.mem_cons.1 hm with rfl | hm
  · have := R.ab_; omega
  · have := R.mw b hm; omega
theorem Rig.blk [Inhabited Low] {a : Nat → Addr} {B lo hi gb ab : Nat} {Mw : List Nat} {wst : List Told → World → Prop} (R : Rig a B lo hi gb ab Mw wst) {w w' : World} (k : K0 (ab :: Mw) w w') (hh : hi ≤ w.heap.size) {b : Nat} (hb : lo ≤ b ∧ b < hi) {o : Obj} (ho : w.heap[b]? = some o) : w'.heap[b]? = some o := by
  rw [k.low b (by have := R.hl; omega) (by omega) fun hm => ?_]
  · exact ho
  · rcases List.mem_cons.1 hm with rfl | hm
    · have := R.ab_; omega
    · have := R.mw b hm; omega
/-- Behind a step. -/
theorem Inv.step [Inhabited Low] [Inhabited Bar] {a : Nat → Addr} {B lo hi gb ab fuel : Nat} {each : Value} {Mw : List Nat} {wst : List Told → World → Prop} (R : Rig a B lo hi gb ab Mw wst) {vb vb' : List Nat} {st st' : St} {env : Env} {ev : Value} {w w' : World} (I : Inv a B lo hi gb ab fuel each wst vb st env ev w)
    (hs : Stp (ab :: Mw) vb st.S w vb' st'.S w') (he : Eng ab vb' st'.S w') (hw : wst st'.told w') : Inv a B lo hi gb ab fuel each wst vb' st' env ev w' := by
  refine ⟨hs.k0.gl I.gl R.bl ?_, hs.k0.block _ _ I.gbk ?_ (by simp), Nat.le_trans I.hi_ hs.k0.size, he, EnvAt.keep hs (R.side I) I.env_, hw⟩
  · intro m hm
    rcases List.mem_cons.1 hm with rfl | hm
    · exact R.ab_.1
    · exact (R.mw m hm).1
  · intro hm
    rcases List.mem_cons.1 hm with rfl | hm
    · exact absurd (I.gbk.symm.trans I.eng.cnt) (by simp)
    · exact (R.mw gb hm).2.2 rfl
theorem Rig.mb [Inhabited Low] {a : Nat → Addr} {B lo hi gb ab : Nat} {Mw : List Nat} {wst : List Told → World → Prop} (R : Rig a B lo hi gb ab Mw wst) : ∀ m ∈ ab :: Mw, B ≤ m := by
  intro m hm
  rcases List.mem_cons.1 hm with rfl | hm
  · exact R.ab_.1
  · exact (R.mw m hm).1
/-- A new block is not barred. -/
theorem Eng.fresh_ [Inhabited Low] [Inhabited Bar] {ab : Nat} {vb : List Nat} {S : Sub} {w : World} (h : Eng ab vb S w) {b : Nat} (hb : w.heap.size ≤ b) : b ∉ barB := fun hm => by have := h.bar b hm; omega

set_option maxRecDepth 100000 in
set_option maxHeartbeats 4000000 in
theorem part_num [Inhabited Low] [Inhabited Bar] {a : Nat → Addr} {ab : Nat} {M Mw vb : List Nat} {st : St} {wst : List Told → World → Prop} {w : World} {g ev : Value} {b : Nat} (hE : Eng ab vb st.S w) (hw : wst st.told w) (hW : Wat ab Mw wst) :
    Calls Tryz.prog 96 #[g, ifp 251 b, ev] w (EPost a ab M wst vb st.S w (.ok (.int, st))) := by
  have HE := Lib.hid hE
  have HW := Lib.hid hw
  have t1 := psNum b
  clear hE hw
  go_enter Tryz.func96, Tryz.ntmps96
  go_wp2_with fail
  refine (of_any ⟨#[105, 110, 116]⟩ (.slice none 0 0) w (.inl rfl)).mono ?_
  rintro e w1 ⟨rfl, rfl⟩
  go_wp2
  go_ret
  have hk := kv_alloc w (.cells #[.string ⟨#[105, 110, 116]⟩, .slice none 0 0] 187)
  exact ⟨_, vb, rfl, ⟨w.heap.size, .con rfl, HE.out.fresh_ (Nat.le_refl _), block_alloc w _⟩, (hk.mono (by simp)).stp vb st.S, HE.out.kv hk (by simp), hW.keep _ _ _ HW.out (hk.k0.mono (by simp))⟩

/-- A kind of two parts, made anew. -/
theorem two_row [Inhabited Low] [Inhabited Bar] {ab : Nat} {vb : List Nat} {S : Sub} {w : World} {v1 v2 : Value} {k : ByteArray} (hE : Eng ab vb S w) :
    KV [] w ((w.alloc (.cells #[v1, v2] 116)).alloc (.cells #[.string k, .slice (some ⟨w.heap.size, 0, none⟩) 2 2] 187)) ∧
    (∀ kk : Bytes, k = bs kk → ConE ((w.alloc (.cells #[v1, v2] 116)).alloc (.cells #[.string k, .slice (some ⟨w.heap.size, 0, none⟩) 2 2] 187)) (w.alloc (.cells #[v1, v2] 116)).heap.size kk (.slice (some ⟨w.heap.size, 0, none⟩) 2 2)) ∧
    RowE ((w.alloc (.cells #[v1, v2] 116)).alloc (.cells #[.string k, .slice (some ⟨w.heap.size, 0, none⟩) 2 2] 187)) (.slice (some ⟨w.heap.size, 0, none⟩) 2 2) [v1, v2] := by
  refine ⟨(kv_alloc w _).trans0 (kv_alloc _ _), fun kk hk => ⟨hE.fresh_ (by simp), ?_⟩, w.heap.size, 2, #[v1, v2], rfl, hE.fresh_ (Nat.le_refl _), block_alloc_old (block_alloc w _), fun j v hj => ?_⟩
  · subst hk; exact block_alloc _ _
  · match j with
    | 0 => simpa using hj
    | 1 => simpa using hj
    | j + 2 => simp at hj
theorem two_new [Inhabited Low] [Inhabited Bar] {ab : Nat} {vb : List Nat} {S : Sub} {w : World} {v1 v2 : Value} {t u : Ty} (hE : Eng ab vb S w) (h1 : TyE vb w t v1) (h2 : TyE vb w u v2) :
    (∀ (k : ByteArray) (kk : Bytes), k = bs kk → kk = kPair → TyE vb ((w.alloc (.cells #[v1, v2] 116)).alloc (.cells #[.string k, .slice (some ⟨w.heap.size, 0, none⟩) 2 2] 187)) (.pair t u) (cV (w.alloc (.cells #[v1, v2] 116)).heap.size)) ∧
    (∀ (k : ByteArray) (kk : Bytes), k = bs kk → kk = kFun → TyE vb ((w.alloc (.cells #[v1, v2] 116)).alloc (.cells #[.string k, .slice (some ⟨w.heap.size, 0, none⟩) 2 2] 187)) (.arr t u) (cV (w.alloc (.cells #[v1, v2] 116)).heap.size)) := by
  refine ⟨fun k kk hk hkk => ?_, fun k kk hk hkk => ?_⟩
  · obtain ⟨hkv, hc, hr⟩ := two_row (v1 := v1) (v2 := v2) (k := k) hE
    subst hkk
    exact ⟨_, _, v1, v2, .con rfl, hc _ hk, hr, hkv.te h1, hkv.te h2⟩
  · obtain ⟨hkv, hc, hr⟩ := two_row (v1 := v1) (v2 := v2) (k := k) hE
    subst hkk
    exact ⟨_, _, v1, v2, .con rfl, hc _ hk, hr, hkv.te h1, hkv.te h2⟩
/-- The contract of engine.of at an expression. -/
def OfOK [Inhabited Low] [Inhabited Bar] (a : Nat → Addr) (B lo hi gb ab fuel uf : Nat) (each : Value) (watch : Option Nat) (Mw : List Nat) (wst : List Told → World → Prop) (x : Exp) : Prop :=
  ∀ (env : Env) (st : St) (r : Rz), ofE uf fuel watch x env st = some r → ∀ (vb : List Nat) (w : World) (xv ev : Value), Inv a B lo hi gb ab fuel each wst vb st env ev w → ExprAt w lo hi x [] [] xv →
    Calls Tryz.prog 56 #[.pointer (some ⟨gb, 0, none⟩), xv, ev] w (EPost a ab (ab :: Mw) wst vb st.S w r)

set_option maxRecDepth 100000 in
set_option maxHeartbeats 4000000 in
theorem part_pair [Inhabited Low] [Inhabited Bar] {a : Nat → Addr} {B lo hi gb ab fuel uf : Nat} {each : Value} {watch : Option Nat} {Mw : List Nat} {wst : List Told → World → Prop} (R : Rig a B lo hi gb ab Mw wst) {x y : Exp}
    (hx : OfOK a B lo hi gb ab fuel uf each watch Mw wst x) (hy : OfOK a B lo hi gb ab fuel uf each watch Mw wst y) {env : Env} {st : St} {r : Rz}
    (hr : ((ofE uf fuel watch x env st).bind fun t st => (ofE uf fuel watch y env st).bind fun u st => some (.ok (.pair t u, st))) = some r) {vb : List Nat} {w : World} {ev xv yv : Value} {b p : Nat} (I : Inv a B lo hi gb ab fuel each wst vb st env ev w)
    (hb : w.heap[b]? = some (.cells #[.int .i64 p, xv, yv] 256 (0, 0))) (hlo : lo ≤ b ∧ b < hi) (hex : ExprAt w lo hi x [] [] xv) (hey : ExprAt w lo hi y [] [] yv) :
    Calls Tryz.prog 96 #[.pointer (some ⟨gb, 0, none⟩), ifp 254 b, ev] w (EPost a ab (ab :: Mw) wst vb st.S w r) := by
  have t1 := psPairNum b
  have t2 := psPairName b
  have t3 := psPairFun b
  have t4 := psPairApp b
  have t5 := psPair b
  have c1 := cell_of_block hb 1
  simp at c1
  have HX := Lib.hid hx
  have HY := Lib.hid hy
  have HI := Lib.hid I
  have HB := Lib.hid hb
  have HEX := Lib.hid hex
  have HEY := Lib.hid hey
  have HR := Lib.hid hr
  clear hx hy I hb hex hey hr
  go_enter Tryz.func96, Tryz.ntmps96
  cases h1 : ofE uf fuel watch x env st with
  | none => have h := HR.out; rw [h1] at h; cases h
  | some r1 =>
    have h := HR.out
    rw [h1] at h
    have HC1 := Lib.hid (HX.out env st r1 h1 vb w xv ev HI.out HEX.out)
    have HR1 := Lib.hid h
    clear h h1 HX HR
    go_wp2_with fail
    refine HC1.out.mono ?_
    intro e w1 hp
    rcases r1 with ⟨f, l⟩ | ⟨t, st1⟩
    · obtain ⟨k, hk, rfl, rfl, hk0, hw⟩ := hp
      have h := HR1.out
      cases h
      go_wp2
      exact ⟨rfl, k, hk, rfl, rfl, hk0, hw⟩
    · obtain ⟨v1, vb1, rfl, hty1, hst1, he1, hw1⟩ := hp
      have HT1 := Lib.hid hty1
      have HS1 := Lib.hid hst1
      have HI1 := Lib.hid (HI.out.step R hst1 he1 hw1)
      have HEY1 := Lib.hid (R.expr hst1.k0 HI.out.hi_ HEY.out)
      have hb1 := R.blk hst1.k0 HI.out.hi_ hlo HB.out
      have c2 := cell_of_block hb1 2
      simp at c2
      have h := HR1.out
      simp only [M.bind] at h
      obtain ⟨vt1, vp1, rfl⟩ : ∃ vt vp, v1 = .iface vt vp := by rcases hty1.shape with ⟨_, rfl⟩ | ⟨_, rfl⟩ <;> exact ⟨_, _, rfl⟩
      clear hty1 hst1 he1 hw1 hb1 c1 HEY HC1 HR1
      cases h2 : ofE uf fuel watch y env st1 with
      | none => rw [h2] at h; cases h
      | some r2 =>
        rw [h2] at h
        have HC2 := Lib.hid (HY.out env st1 r2 h2 vb1 w1 yv ev HI1.out HEY1.out)
        have HR2 := Lib.hid h
        clear h h2
        go_wp2_with fail
        refine HC2.out.mono ?_
        intro e w2 hp
        rcases r2 with ⟨f, l⟩ | ⟨u, st2⟩
        · obtain ⟨k, hk, rfl, rfl, hk0, hw⟩ := hp
          have h := HR2.out
          cases h
          go_wp2
          exact ⟨rfl, k, hk, rfl, rfl, HS1.out.k0.transM hk0, hw⟩
        · obtain ⟨v2, vb2, rfl, hty2, hst2, he2, hw2⟩ := hp
          have HT2 := Lib.hid hty2
          have HS2 := Lib.hid hst2
          have HE2 := Lib.hid he2
          have HW2 := Lib.hid hw2
          have h := HR2.out
          simp only [Option.some.injEq] at h
          subst h
          obtain ⟨vt2, vp2, rfl⟩ : ∃ vt vp, v2 = .iface vt vp := by rcases hty2.shape with ⟨_, rfl⟩ | ⟨_, rfl⟩ <;> exact ⟨_, _, rfl⟩
          clear hty2 hst2 he2 hw2 c2 HR2 HC2
          go_wp2_with fail
          refine (of_any ⟨#[112, 97, 105, 114]⟩ (.slice (some ⟨w2.heap.size, 0, none⟩) 2 2) _ (.inr ⟨_, _, _, rfl⟩)).mono ?_
          rintro e w3 ⟨rfl, rfl⟩
          go_wp2
          go_ret
          have hnew := two_new HE2.out (HS2.out.ty _ _ HT1.out) HT2.out
          have hkv := (two_row (v1 := .iface vt1 vp1) (v2 := .iface vt2 vp2) (k := ⟨#[112, 97, 105, 114]⟩) HE2.out).1
          have hp := hnew.1 ⟨#[112, 97, 105, 114]⟩ kPair rfl rfl
          rw [show (w2.alloc (.cells #[.iface vt1 vp1, .iface vt2 vp2] 116)).heap.size = w2.heap.size + 1 by simp] at hp
          exact ⟨cV (w2.heap.size + 1), vb2, rfl, hp, (HS1.out.trans HS2.out).trans ((hkv.mono (by simp)).stp vb2 st2.S), HE2.out.kv hkv (by simp), R.wat.keep _ _ _ HW2.out (hkv.k0.mono (by simp))⟩
end Go.Proofs.YtpbplpnifjbkoabGreatDoor

/-
  ast.Unbound, by contract, for whatever test of names.
-/
import Derived.Test.YtpbplpnifjbkoabGreatDoorBelow2
import Derived.Test.YtpbplpnifjbkoabGreatDoorEng
import Derived.Deep.RegionHeld3
import Derived.Deep.RegionLaw
import Derived.Shelf.Abstract
import Derived.Test.YtpbplpnifjbkoabGreatDoorEnvx
import Derived.Test.YtpbplpnifjbkoabGreatDoorOfx
import Derived.Test.YtpbplpnifjbkoabGreatDoorReds
import Derived.Recover
import Derived.Test.YtpbplpnifjbkoabGreatDoorSchx
import Derived.Test.YtpbplpnifjbkoabGreatDoorInst
import Derived.Test.YtpbplpnifjbkoabGreatDoorTcan
import Derived.Test.YtpbplpnifjbkoabGreatDoorNamx
namespace Go.Proofs.YtpbplpnifjbkoabGreatDoor
open Go.RowKit

def unboundL : List Exp → List Bytes → Option (Nat × Bytes)
  | [], _ => none
  | a :: r, l => (unbound a l).or (unboundL r l)
theorem unboundL_append (xs ys : List Exp) (l : List Bytes) : unboundL (xs ++ ys) l = (unboundL xs l).or (unboundL ys l) := by
  induction xs with
  | nil => simp [unboundL]
  | cons a r ih => simp [unboundL, ih, Option.or_assoc]
theorem unbound_group (g : Exp) (hw : wfE true g = true) (l : List Bytes) : unbound g l = unboundL (gBodies g ++ [gFor g]) l := by
  induction g with
  | bnd x a g _ ih =>
    simp only [wfE, Bool.and_eq_true] at hw
    simp [unbound, gBodies, gFor, unboundL, ih hw.2]
  | fin b _ => simp [unbound, gBodies, gFor, unboundL]
  | name _ _ => simp [wfE] at hw
  | num _ _ => simp [wfE] at hw
  | lam _ _ _ _ => simp [wfE] at hw
  | app _ _ _ _ _ => simp [wfE] at hw
  | pair _ _ _ _ _ => simp [wfE] at hw
  | letin _ _ _ _ _ _ => simp [wfE] at hw
  | recr _ _ _ => simp [wfE] at hw
  | cond _ _ _ _ _ _ _ => simp [wfE] at hw
theorem unboundL_one (a : Exp) (l : List Bytes) : unboundL [a] l = unbound a l := by simp [unboundL]
theorem unboundL_two (a b : Exp) (l : List Bytes) : unboundL [a, b] l = (unbound a l).or (unbound b l) := by simp [unboundL]

/-- A test of names: its number, what it has captured; from world w on. -/
structure ScopeOK (kf : FuncId) (caps : Array Value) (w : World) (l : List Bytes) : Prop where
  call : ∀ (s : Bytes) (W : World), Keeps [] w W → Calls Tryz.prog kf (#[.string (bs s)] ++ caps) W fun e W' => e = .returned (.bool (decide (s ∈ l))) ∧ Keeps [] W W'
  ent : ∀ (s : Bytes) (W : World), (callFunc kf (#[.string (bs s)] ++ caps)).run Tryz.prog W = .ok (.enter kf (#[.string (bs s)] ++ caps)) W
theorem ScopeOK.keep {kf : FuncId} {caps : Array Value} {w w' : World} {l : List Bytes} (h : ScopeOK kf caps w l) (hk : Keeps [] w w') : ScopeOK kf caps w' l :=
  ⟨fun s W hW => h.call s W (hk.trans0 hW), h.ent⟩

/-- A slice of names. -/
def NamesAt (w : World) (v : Value) (ns : List Bytes) : Prop := RowAt w 0 w.heap.size 9 v (ns.map fun x => Value.string (bs x))
theorem NamesAt.keep {w w' : World} {v : Value} {ns : List Bytes} (h : NamesAt w v ns) (hk : Keeps [] w w') : NamesAt w' v ns :=
  (RowAt.keep h fun b _ h2 => hk.block b h2 (by simp)).widen (Nat.le_refl _) hk.size
theorem NamesAt.shape {w : World} {v : Value} {ns : List Bytes} (h : NamesAt w v ns) : ∃ ad cap, v = .slice ad ns.length cap ∧ ns.length ≤ maxLen ∧ ∀ j s, ns[j]? = some s → ∃ g, ad = some ⟨g, 0, none⟩ ∧ w.cell? ⟨g, j, none⟩ = some (.string (bs s)) := by
  rcases h with ⟨rfl, h⟩ | ⟨g, cap, cur, rfl, _, _, h3, h4, h5, h6, h7⟩
  · have hn : ns = [] := by simpa using h
    subst hn
    exact ⟨none, 0, rfl, by simp, fun j s hj => by simp at hj⟩
  · refine ⟨some ⟨g, 0, none⟩, cap, by simp, by simp at h4; omega, fun j s hj => ⟨g, rfl, ?_⟩⟩
    rw [cell_of_block h3 j]
    have : cur.toList[j]? = some (.string (bs s)) := by
      have h8 : (cur.toList.take (ns.map fun x => Value.string (bs x)).length)[j]? = some (.string (bs s)) := by rw [h7]; simp [hj]
      rw [List.getElem?_take] at h8
      split at h8
      · exact h8
      · cases h8
    simpa using this

set_option maxRecDepth 100000 in
set_option maxHeartbeats 4000000 in
/-- Names more: the closure that with hands back. -/
theorem scope1 {kf : FuncId} {caps : Array Value} {w : World} {l ns : List Bytes} {nv : Value} {nb sb : Nat} (h : ScopeOK kf caps w l) (hn : NamesAt w nv ns) (hns : ns.length ≤ 65536)
    (hnb : w.heap[nb]? = some (.cells #[nv] 27 (0, 0))) (hsb : w.heap[sb]? = some (.cells #[.func (.func kf) #[] caps] 57 (0, 0))) :
    ScopeOK 92 #[.pointer (some ⟨nb, 0, none⟩), .pointer (some ⟨sb, 0, none⟩)] w (ns ++ l) := by
  refine ⟨fun s W hW => ?_, fun s W => by kernel_rfl⟩
  obtain ⟨ad, cap, rfl, hm, hc⟩ := (hn.keep hW).shape
  have c0 := cell_of_block (hW.some hnb (by simp)) 0
  have c1 := cell_of_block (hW.some hsb (by simp)) 0
  simp at c0 c1
  have HC := Lib.hid hc
  have HS := Lib.hid h
  have HW := Lib.hid hW
  clear h hn hc hW hnb hsb hm
  show Calls Tryz.prog 92 #[.string (bs s), .pointer (some ⟨nb, 0, none⟩), .pointer (some ⟨sb, 0, none⟩)] W _
  go_enter Tryz.func92, Tryz.ntmps92
  go_wp2_with fail
  go_loopg [9] ns.length (fun gg i wx => ∃ j : Nat, gg = ns.length - j ∧ i = .int .i64 j ∧ j ≤ ns.length ∧ s ∉ ns.take j ∧ wx = W)
  case atStart => exact ⟨0, rfl, rfl, by omega, by simp, rfl⟩
  case round =>
    obtain ⟨j, hg, rfl, hj, hnin, rfl⟩ := hrel
    have HG := Lib.hid hg
    have HNI := Lib.hid hnin
    clear hg hnin
    by_cases hlt : j < ns.length
    · obtain ⟨m, hmj⟩ : ∃ m, ns[j]? = some m := ⟨_, List.getElem?_eq_getElem hlt⟩
      obtain ⟨g, rfl, hcell⟩ := HC.out j m hmj
      have hdl : decide ((j : Int) < (ns.length : Int)) = true := by simpa using hlt
      have HM := Lib.hid hmj
      clear hmj
      by_cases hms : m = s
      · subst hms
        have hd : ((bs m).toList == (bs m).toList) = true := by simp
        go_wp2_with fail
        go_ret
        have hin : m ∈ ns ++ l := List.mem_append_left _ (List.mem_of_getElem? HM.out)
        refine ⟨?_, Keeps.refl _ _⟩
        rw [decide_eq_true hin]
        rfl
      · have hd : ((bs m).toList == (bs s).toList) = false := by rw [ByteArray.toList_eq, ByteArray.toList_eq, bs_data, bs_data]; exact beq_eq_false_iff_ne.2 hms
        go_wp2_with fail
        go_roundg (ns.length - (j + 1))
        case measure => have := HG.out; omega
        case rel =>
          refine ⟨j + 1, rfl, by go_num, by omega, ?_, rfl⟩
          rw [List.take_add_one, HM.out]
          simp only [Option.toList_some, List.mem_append, List.mem_singleton, not_or]
          exact ⟨HNI.out, fun e => hms e.symm⟩
    · have hdl : decide ((j : Int) < (ns.length : Int)) = false := by simpa using hlt
      have hnn : s ∉ ns := by have := HNI.out; rwa [List.take_of_length_le (by omega)] at this
      have hent := HS.out.ent s
      have HCALL := Lib.hid (HS.out.call s _ HW.out)
      have HD := Lib.hid (show decide (s ∈ ns ++ l) = decide (s ∈ l) from decide_eq_decide.2 (by simp [hnn]))
      clear hnn
      go_wp2_with fail
      refine HCALL.out.mono ?_
      rintro e w2 ⟨rfl, hk⟩
      go_wp2
      go_ret
      refine ⟨?_, hk⟩
      rw [HD.out]
      rfl

theorem names_one {W : World} {g : Nat} {s : Bytes} (h : W.heap[g]? = some (.cells #[.string (bs s)] 9 (0, 0))) : NamesAt W (.slice (some ⟨g, 0, none⟩) 1 1) [s] :=
  .inr ⟨g, 1, #[.string (bs s)], rfl, Nat.zero_le _, lt_of_some h, h, Nat.le_refl _, by decide, rfl, rfl⟩
/-- How Unbound ends. -/
def UbPost (w : World) (r : Option (Nat × Bytes)) (e : Ending) (w' : World) : Prop := Keeps [] w w' ∧ match r with
  | none => e = .returned .nilIface
  | some p => ∃ b : Nat, e = .returned (ifp 136 b) ∧ w.heap.size ≤ b ∧ w'.heap[b]? = some (.cells #[.int .i64 p.1, .string (bs p.2)] 149 (0, 0))
theorem UbPost.pre {w w1 : World} {r : Option (Nat × Bytes)} {e : Ending} {w' : World} (h : UbPost w1 r e w') (hk : Keeps [] w w1) : UbPost w r e w' := by
  refine ⟨hk.trans0 h.1, ?_⟩
  have h2 := h.2
  cases r with
  | none => exact h2
  | some p => obtain ⟨b, h3, h4, h5⟩ := h2; exact ⟨b, h3, Nat.le_trans hk.size h4, h5⟩
theorem UbPost.shape {w : World} {r : Option (Nat × Bytes)} {e : Ending} {w' : World} (h : UbPost w r e w') : (r = none ∧ e = .returned .nilIface) ∨ ∃ b : Nat, r ≠ none ∧ e = .returned (ifp 136 b) := by
  cases r with
  | none => exact .inl ⟨rfl, h.2⟩
  | some p => obtain ⟨b, h3, _⟩ := h.2; exact .inr ⟨b, by simp, h3⟩
theorem UbPost.ret {w : World} {r : Option (Nat × Bytes)} {e : Ending} {w' : World} (h : UbPost w r e w') : ∃ ev, e = .returned ev := by
  rcases h.shape with ⟨_, h⟩ | ⟨_, _, h⟩ <;> exact ⟨_, h⟩
/-- Unbound of expressions of few parts. -/
def UbIH (n : Nat) : Prop := ∀ (x : Exp), esz x ≤ n → wfE false x = true → ∀ (w : World) (lo hi : Nat) (v : Value) (kf : FuncId) (caps : Array Value) (l : List Bytes), ExprAt w lo hi x [] [] v → hi ≤ w.heap.size → ScopeOK kf caps w l →
  Calls Tryz.prog 51 #[v, .func (.func kf) #[] caps] w (UbPost w (unbound x l))

/-- A row's cells. -/
def VCells (w : World) (ad : Option Addr) (vs : List Value) : Prop := ∀ j, j < vs.length → ∃ g, ad = some ⟨g, 0, none⟩ ∧ w.cell? ⟨g, j, none⟩ = vs[j]?
theorem VCells.keep {w w' : World} {ad : Option Addr} {vs : List Value} (h : VCells w ad vs) (hk : Keeps [] w w') : VCells w' ad vs := fun j hj => by
  obtain ⟨g, h1, h2⟩ := h j hj
  refine ⟨g, h1, ?_⟩
  rw [List.getElem?_eq_getElem hj] at h2 ⊢
  exact hk.cellSome h2 (by simp)
theorem ub_names_len (g : Exp) : (gNames g).length = (gBodies g).length := by
  induction g with
  | bnd x a g _ ih => simp [gNames, gBodies, ih]
  | _ => rfl
set_option maxRecDepth 100000 in
set_option maxHeartbeats 4000000 in
theorem first_any {n : Nat} (hih : UbIH n) {es : List Exp} (hes : ∀ a ∈ es, esz a ≤ n ∧ wfE false a = true) {w : World} {lo hi : Nat} {vs : List Value} {ad : Option Addr} {cap : Nat} {kf : FuncId} {caps : Array Value} {l : List Bytes}
    (hall : AllAt w lo hi es vs) (hhi : hi ≤ w.heap.size) (hcell : VCells w ad vs) (hlen : vs.length ≤ 65536) (hs : ScopeOK kf caps w l) :
    Calls Tryz.prog 93 #[.slice ad vs.length cap, .func (.func kf) #[] caps] w (UbPost w (unboundL es l)) := by
  have HL := Lib.hid hall.length
  have HALL := Lib.hid hall
  have HIH := Lib.hid hih
  have HES := Lib.hid hes
  have HS := Lib.hid hs
  have HC := Lib.hid hcell
  clear hall hih hes hs hcell
  go_enter Tryz.func93, Tryz.ntmps93
  go_wp2_with fail
  go_loopg [10] vs.length (fun gg i wx => ∃ j : Nat, gg = vs.length - j ∧ i = .int .i64 j ∧ j ≤ vs.length ∧ unboundL (es.take j) l = none ∧ Keeps [] w wx)
  case atStart => exact ⟨0, rfl, rfl, by omega, rfl, Keeps.refl _ _⟩
  case round =>
    obtain ⟨j, hg, rfl, hj, hun, hk⟩ := hrel
    have HG := Lib.hid hg
    have HU := Lib.hid hun
    have HK := Lib.hid hk
    clear hg hun hk
    by_cases hlt : j < vs.length
    · have hje : j < es.length := by rw [← HL.out]; exact hlt
      obtain ⟨gb, rfl, hc⟩ := HC.out j hlt
      obtain ⟨vj, hvj, hex⟩ := HALL.out.get j hje
      obtain ⟨hz, hwf⟩ := HES.out es[j] (List.getElem_mem _)
      obtain ⟨tj, bj, rfl⟩ := hex.ifp hwf
      rw [hvj] at hc
      have hc' := HK.out.cellSome hc (by simp)
      have hdl : decide ((j : Int) < (vs.length : Int)) = true := by simpa using hlt
      have hex2 := ExprAt.keep (fun b h1 h2 => HK.out.block b (by omega) (by simp)) _ _ _ _ hex
      have HCALL := Lib.hid (HIH.out es[j] hz hwf _ lo hi _ kf caps l hex2 (Nat.le_trans hhi HK.out.size) (HS.out.keep HK.out))
      have HSPL := Lib.hid (show unboundL es l = (unbound es[j] l).or (unboundL (es.drop (j + 1)) l) by
        have h1 : es = es.take j ++ es[j] :: es.drop (j + 1) := by rw [List.getElem_cons_drop, List.take_append_drop]
        have h2 : unboundL es l = unboundL (es.take j ++ es[j] :: es.drop (j + 1)) l := congrArg (fun z => unboundL z l) h1
        rw [h2, unboundL_append, HU.out]
        simp [unboundL])
      have HNX := Lib.hid (show unboundL (es.take (j + 1)) l = unbound es[j] l by
        rw [List.take_succ_eq_append_getElem hje, unboundL_append, HU.out, unboundL_one]; rfl)
      clear hc hvj hex hex2 hz hwf
      go_wp2_with fail
      refine HCALL.out.mono ?_
      intro e w2 hp
      have HP := Lib.hid hp
      rcases hp.shape with ⟨hr, rfl⟩ | ⟨b, hr, rfl⟩
      · have HR := Lib.hid hr
        have hk2 := hp.1
        clear hp hr
        go_wp2_with fail
        go_roundg (vs.length - (j + 1))
        case measure => have := HG.out; omega
        case rel => exact ⟨j + 1, rfl, by go_num, by omega, by rw [HNX.out, HR.out], HK.out.trans0 hk2⟩
      · have HR := Lib.hid hr
        clear hp hr
        go_wp2_with fail
        go_ret
        have h1 : unboundL es l = unbound es[j] l := by
          rw [HSPL.out]
          cases hx : unbound es[j] l with
          | none => exact absurd hx HR.out
          | some q => rfl
        rw [h1]
        exact HP.out.pre HK.out
    · have hdl : decide ((j : Int) < (vs.length : Int)) = false := by simpa using hlt
      have hju : unboundL es l = none := by have := HU.out; rwa [List.take_of_length_le (by rw [← HL.out]; omega)] at this
      have HJ := Lib.hid hju
      clear hju
      go_wp2
      go_ret
      rw [HJ.out]
      exact ⟨HK.out, rfl⟩

theorem place_at (p : Int) (w : World) : Calls Tryz.prog 94 #[.int .i64 p] w fun e w' => e = .returned (.int .i64 p) ∧ w = w' := by
  go_enter Tryz.func94, Tryz.ntmps94
  go_wp2
  go_ret
  exact ⟨rfl, rfl⟩
/-- None of the four that Unbound looks for. -/
structure TaNo (ty : TypeId) : Prop where
  n : ∀ (v : Value) (xT : TypeId) (w : World), (Instr.typeAssert (.iface ty v) xT 207 true).run Tryz.prog w = .ok (.tuple #[.pointer none, .bool false]) w
  f : ∀ (v : Value) (xT : TypeId) (w : World), (Instr.typeAssert (.iface ty v) xT 212 true).run Tryz.prog w = .ok (.tuple #[.pointer none, .bool false]) w
  l : ∀ (v : Value) (xT : TypeId) (w : World), (Instr.typeAssert (.iface ty v) xT 215 true).run Tryz.prog w = .ok (.tuple #[.pointer none, .bool false]) w
  r : ∀ (v : Value) (xT : TypeId) (w : World), (Instr.typeAssert (.iface ty v) xT 218 true).run Tryz.prog w = .ok (.tuple #[.pointer none, .bool false]) w
theorem taNoNum : TaNo 251 := ⟨taNumName, taNumFun, taNumLet, taNumRec⟩
theorem taNoApp : TaNo 261 := ⟨taAppName, taAppFun, taAppLet, taAppRec⟩
theorem taNoPair : TaNo 254 := ⟨taPairName, taPairFun, taPairLet, taPairRec⟩
theorem taNoIf : TaNo 257 := ⟨taIfName, taIfFun, taIfLet, taIfRec⟩

set_option maxRecDepth 100000 in
set_option maxHeartbeats 4000000 in
theorem unb_other {n : Nat} (hih : UbIH n) {x : Exp} (hz : esz x ≤ n + 1) (hn : n < 65536) (hw : wfE false x = true) {l : List Bytes} (hu : unbound x l = unboundL (kids x) l) {w : World} {lo hi : Nat} {ty b : Nat} {kf : FuncId} {caps : Array Value}
    (h : ExprAt w lo hi x [] [] (ifp ty b)) (hhi : hi ≤ w.heap.size) (hs : ScopeOK kf caps w l) (ta : TaNo ty) :
    Calls Tryz.prog 51 #[ifp ty b, .func (.func kf) #[] caps] w (UbPost w (unbound x l)) := by
  have hk0 : Keeps [] w (w.alloc (.cells #[.func (.func kf) #[] caps] 57)) := (Keeps.refl [] w).alloc _
  have HIH := Lib.hid hih
  have HU := Lib.hid hu
  have HS := Lib.hid (hs.keep hk0)
  have HB := Lib.hid (fun W (hk : Keeps [] w W) => below_any (ExprAt.keep (fun b h1 h2 => hk.block b (by omega) (by simp)) _ _ _ _ h) hw (by omega : esz x ≤ 65536))
  have HKL := Lib.hid (show (kids x).length ≤ 65536 by have := kids_len x; omega)
  have HKD := Lib.hid (show ∀ a ∈ kids x, esz a ≤ n ∧ wfE false a = true from fun a ha => ⟨by have := esz_kids ha; omega, wfE_kids hw ha⟩)
  have HK0 := Lib.hid hk0
  have q1 := ta.n (.pointer (some ⟨b, 0, none⟩))
  have q2 := ta.f (.pointer (some ⟨b, 0, none⟩))
  have q3 := ta.l (.pointer (some ⟨b, 0, none⟩))
  have q4 := ta.r (.pointer (some ⟨b, 0, none⟩))
  have hb0 := block_alloc w (.cells #[.func (.func kf) #[] caps] 57)
  have HB0 := Lib.hid hb0
  have HX := Lib.hid (fun (W : World) (hW : Keeps [] (w.alloc (.cells #[.func (.func kf) #[] caps] 57)) W) => (⟨cell_of_block (hW.some hb0 (by simp)) 0, hW⟩ : W.cell? ⟨w.heap.size, 0, none⟩ = some (.func (.func kf) #[] caps) ∧ Keeps [] (w.alloc (.cells #[.func (.func kf) #[] caps] 57)) W))
  clear hih hw hu h hs ta hk0 hb0
  go_enter Tryz.func51, Tryz.ntmps51
  go_wp2_with fail
  have hkd : Keeps [] (w.alloc (.cells #[.func (.func kf) #[] caps] 57)) (w.alloc (.cells #[.func (.func kf) #[] caps] 57)).drew := (Keeps.refl [] _).drew
  go_region_held3 (fun W => W.cell? ⟨w.heap.size, 0, none⟩ = some (.func (.func kf) #[] caps) ∧ Keeps [] (w.alloc (.cells #[.func (.func kf) #[] caps] 57)) W)
    (first | exact HX.out _ hkd | exact HX.out _ hk1 | exact HX.out _ (hk1.trans0 hk2))
    (first
      | (go_at_call 95
         refine (HB.out _ (HK0.out.trans0 hkd)).mono ?_
         rintro e W1 ⟨sv, vs, rfl, hown, hall, hkb⟩
         have hk1 : Keeps [] (w.alloc (.cells #[.func (.func kf) #[] caps] 57)) W1 := hkd.trans0 hkb
         obtain ⟨ad, cap, rfl, hcl⟩ := ownsRow_shape hown
         have HOWN := Lib.hid (show VCells W1 ad vs from hcl)
         have HALL := Lib.hid (hall.keep (fun b h1 h2 => hkb.block b (by have := (HK0.out.trans0 hkd).size; omega) (by simp)))
         have hlen : vs.length ≤ 65536 := hall.length ▸ HKL.out
         clear hown hall hkb hcl)
      | (go_at_call 93
         have hfa := first_any HIH.out HKD.out HALL.out (Nat.le_trans hhi (HK0.out.trans0 hk1).size) HOWN.out hlen (HS.out.keep hk1) (cap := cap)
         refine hfa.mono ?_
         intro e W2 hp
         have HP := Lib.hid hp
         have hk2 := hp.1
         obtain ⟨ev, rfl⟩ := hp.ret
         clear hp))
  all_goals
    go_wp2
    go_ret
    rw [HU.out]
    exact HP.out.pre (HK0.out.trans0 hk1)

set_option maxRecDepth 100000 in
set_option maxHeartbeats 4000000 in
theorem unb_name {w : World} {lo hi p : Nat} {s : Bytes} {l : List Bytes} {b : Nat} {kf : FuncId} {caps : Array Value}
    (h : ExprAt w lo hi (.name p s) [] [] (ifp 207 b)) (hs : ScopeOK kf caps w l) :
    Calls Tryz.prog 51 #[ifp 207 b, .func (.func kf) #[] caps] w (UbPost w (unbound (.name p s) l)) := by
  obtain ⟨_, _, b', _, _, e, hb⟩ := h
  cases e
  have hk0 : Keeps [] w (w.alloc (.cells #[.func (.func kf) #[] caps] 57)) := (Keeps.refl [] w).alloc _
  have HS := Lib.hid (hs.keep hk0)
  have HK0 := Lib.hid hk0
  have HB := Lib.hid hb
  have q1 := taNameName (.pointer (some ⟨b, 0, none⟩))
  have hent := fun (W : World) => hs.ent s W
  have hbw := hk0.some hb (by simp)
  have c0 := cell_of_block hbw 0
  have c1 := cell_of_block hbw 1
  simp at c0 c1
  have hlt := lt_of_some hb
  clear hs hk0 hb hbw
  go_enter Tryz.func51, Tryz.ntmps51
  go_wp2_with fail
  have hkd : Keeps [] (w.alloc (.cells #[.func (.func kf) #[] caps] 57)) (w.alloc (.cells #[.func (.func kf) #[] caps] 57)).drew := (Keeps.refl [] _).drew
  have HC := Lib.hid (HS.out.call s _ hkd)
  go_region_law (go_simp; go_at_fn kf; refine HC.out.mono ?_; rintro e W1 ⟨rfl, hk2⟩; have HK2 := Lib.hid hk2; clear hk2)
  all_goals
    have hbw := (HK0.out.trans0 (hkd.trans0 HK2.out)).some HB.out (by simp)
    have d0 := cell_of_block hbw 0
    have d1 := cell_of_block hbw 1
    simp at d0 d1
    clear hbw
    by_cases hin : s ∈ l
    · have hd : decide (s ∈ l) = true := by simpa using hin
      rw [hd]
      go_wp2
      go_ret
      refine ⟨HK0.out.trans0 (hkd.trans0 HK2.out), ?_⟩
      simp [unbound, hin]
    · have hd : decide (s ∈ l) = false := by simpa using hin
      rw [hd]
      go_wp2_with fail
      go_region_law (go_simp; go_at_call 94; refine (place_at _ _).mono ?_; rintro e W2 ⟨rfl, rfl⟩)
      all_goals
        go_wp2
        go_ret
        refine ⟨?_, ?_⟩
        · repeat (first | exact HK0.out.trans0 (hkd.trans0 HK2.out) | refine Keeps.alloc ?_ _ | refine Keeps.drew ?_)
        · simp only [unbound, if_neg hin]
          exact ⟨_, rfl, by have := (HK0.out.trans0 (hkd.trans0 HK2.out)).size; simp; omega, by first | exact block_alloc _ _ | exact block_alloc_old (block_alloc _ _)⟩

set_option maxRecDepth 100000 in
theorem with_any' (nv : Value) (sb : Nat) (hnv : ∃ a n c, nv = .slice a n c) (w : World) : Calls Tryz.prog 91 #[nv, .pointer (some ⟨sb, 0, none⟩)] w fun e w' =>
    ∃ nb : Nat, e = .returned (.func (.func 92) #[] #[.pointer (some ⟨nb, 0, none⟩), .pointer (some ⟨sb, 0, none⟩)]) ∧ w'.heap[nb]? = some (.cells #[nv] 27 (0, 0)) ∧ Keeps [] w w' := by
  obtain ⟨a, n, c, rfl⟩ := hnv
  have hmf : ∀ (fn : Fn) (first cap : Array Value) (w : World), (Instr.makeFunc fn first cap).run Tryz.prog w = .ok (.func fn first cap) w := fun _ _ _ _ => rfl
  go_enter Tryz.func91, Tryz.ntmps91
  go_wp2
  go_ret
  exact ⟨_, rfl, block_alloc w _, (Keeps.refl [] w).alloc _⟩

set_option maxRecDepth 100000 in
set_option maxHeartbeats 4000000 in
theorem unb_lam {n : Nat} (hih : UbIH n) {p : Nat} {s : Bytes} {e : Exp} (hz : esz (.lam p s e) ≤ n + 1) (hw : wfE false (.lam p s e) = true) {w : World} {lo hi : Nat} {l : List Bytes} {b : Nat} {kf : FuncId} {caps : Array Value}
    (h : ExprAt w lo hi (.lam p s e) [] [] (ifp 212 b)) (hhi : hi ≤ w.heap.size) (hs : ScopeOK kf caps w l) :
    Calls Tryz.prog 51 #[ifp 212 b, .func (.func kf) #[] caps] w (UbPost w (unbound (.lam p s e) l)) := by
  obtain ⟨_, _, b', ve, _, _, e', hb, he⟩ := h
  cases e'
  have hk0 : Keeps [] w (w.alloc (.cells #[.func (.func kf) #[] caps] 57)) := (Keeps.refl [] w).alloc _
  have HS := Lib.hid (hs.keep hk0)
  have HK0 := Lib.hid hk0
  have HB := Lib.hid hb
  have HE := Lib.hid he
  have HIH := Lib.hid (hih e (by simp only [esz] at hz; omega) (by simpa [wfE] using hw))
  have q1 := taFunName (.pointer (some ⟨b, 0, none⟩))
  have q2 := taFunFun (.pointer (some ⟨b, 0, none⟩))
  have hbw := hk0.some hb (by simp)
  have c1 := cell_of_block hbw 1
  have c2 := cell_of_block hbw 2
  simp at c1 c2
  have hlt := lt_of_some hb
  obtain ⟨ty, bb, rfl⟩ := he.ifp (by simpa [wfE] using hw)
  clear hs hk0 hb hbw he hih
  go_enter Tryz.func51, Tryz.ntmps51
  go_wp2_with fail
  have hkd : Keeps [] (w.alloc (.cells #[.func (.func kf) #[] caps] 57)) (w.alloc (.cells #[.func (.func kf) #[] caps] 57)).drew := (Keeps.refl [] _).drew
  have hbs := block_alloc w (.cells #[.func (.func kf) #[] caps] 57)
  have hbn := block_alloc (w.alloc (.cells #[.func (.func kf) #[] caps] 57)) (.cells #[.string (bs s)] 9)
  rw [show (w.alloc (.cells #[.func (.func kf) #[] caps] 57)).heap.size = w.heap.size + 1 by simp] at hbn
  have HX := Lib.hid (fun (W1 : World) (nb : Nat) (hnb : W1.heap[nb]? = some (.cells #[.slice (some ⟨w.heap.size + 1, 0, none⟩) 1 1] 27 (0, 0))) (hk1 : Keeps [] ((w.alloc (.cells #[.func (.func kf) #[] caps] 57)).alloc (.cells #[.string (bs s)] 9)) W1) =>
    HIH.out W1 lo hi _ 92 #[.pointer (some ⟨nb, 0, none⟩), .pointer (some ⟨w.heap.size, 0, none⟩)] ([s] ++ l)
      (ExprAt.keep (fun b h1 h2 => ((HK0.out.alloc _).trans0 hk1).block b (by omega) (by simp)) _ _ _ _ HE.out) (Nat.le_trans hhi ((HK0.out.alloc _).trans0 hk1).size)
      (scope1 (HS.out.keep (((Keeps.refl [] _).alloc _).trans0 hk1)) ((names_one hbn).keep hk1) (by simp) hnb (hk1.some (block_alloc_old hbs) (by simp))))
  clear hbs hbn
  go_region_law (first
    | (go_simp; go_at_call 91; refine (with_any' _ _ ⟨_, _, _, rfl⟩ _).mono ?_; rintro e1 W1 ⟨nb, rfl, hnb, hk1⟩; have HCALL := Lib.hid (HX.out W1 nb hnb ((Keeps.refl [] _).drew.trans0 hk1)); have HK1 := Lib.hid (((HK0.out.alloc _).drew.trans0 hk1 : Keeps [] w W1)); have d2 : W1.cell? ⟨b, 2, none⟩ = some (ifp ty bb) := cell_of_block (HK1.out.some HB.out (by simp)) 2; clear hnb hk1)
    | (go_simp; go_at_call 51; refine HCALL.out.mono ?_; intro e2 W2 hp; have HP := Lib.hid hp; obtain ⟨ev, rfl⟩ := hp.ret; clear hp))
  all_goals
    go_wp2
    go_ret
    exact HP.out.pre HK1.out

set_option maxRecDepth 100000 in
set_option maxHeartbeats 4000000 in
theorem unb_let {n : Nat} (hih : UbIH n) {p : Nat} {s : Bytes} {x e : Exp} (hz : esz (.letin p s x e) ≤ n + 1) (hw : wfE false (.letin p s x e) = true) {w : World} {lo hi : Nat} {l : List Bytes} {b : Nat} {kf : FuncId} {caps : Array Value}
    (h : ExprAt w lo hi (.letin p s x e) [] [] (ifp 215 b)) (hhi : hi ≤ w.heap.size) (hs : ScopeOK kf caps w l) :
    Calls Tryz.prog 51 #[ifp 215 b, .func (.func kf) #[] caps] w (UbPost w (unbound (.letin p s x e) l)) := by
  obtain ⟨_, _, b', vx, ve, _, _, e', hb, hx, he⟩ := h
  cases e'
  simp only [wfE, Bool.and_eq_true] at hw
  have hk0 : Keeps [] w (w.alloc (.cells #[.func (.func kf) #[] caps] 57)) := (Keeps.refl [] w).alloc _
  have HS := Lib.hid (hs.keep hk0)
  have HK0 := Lib.hid hk0
  have HB := Lib.hid hb
  have HE := Lib.hid he
  have HXX := Lib.hid hx
  have HIX := Lib.hid (hih x (by simp only [esz] at hz; omega) hw.1)
  have HIH := Lib.hid (hih e (by simp only [esz] at hz; omega) hw.2)
  have q1 := taLetName (.pointer (some ⟨b, 0, none⟩))
  have q2 := taLetFun (.pointer (some ⟨b, 0, none⟩))
  have q3 := taLetLet (.pointer (some ⟨b, 0, none⟩))
  have hbw := hk0.some hb (by simp)
  have c1 := cell_of_block hbw 1
  have c2 := cell_of_block hbw 2
  have c3 := cell_of_block hbw 3
  simp at c1 c2 c3
  have hlt := lt_of_some hb
  obtain ⟨ty, bb, rfl⟩ := he.ifp hw.2
  obtain ⟨tx, bx, rfl⟩ := hx.ifp hw.1
  have hbs := block_alloc w (.cells #[.func (.func kf) #[] caps] 57)
  have HBS := Lib.hid hbs
  have b0 := cell_of_block hbs 0
  simp at b0
  clear b0
  clear hs hk0 hb hbw he hx hih hbs
  go_enter Tryz.func51, Tryz.ntmps51
  go_wp2_with fail
  have hkd : Keeps [] (w.alloc (.cells #[.func (.func kf) #[] caps] 57)) (w.alloc (.cells #[.func (.func kf) #[] caps] 57)).drew := (Keeps.refl [] _).drew
  have HC := Lib.hid (HIX.out _ lo hi _ kf caps l (ExprAt.keep (fun b h1 h2 => (HK0.out.trans0 hkd).block b (by omega) (by simp)) _ _ _ _ HXX.out) (Nat.le_trans hhi (HK0.out.trans0 hkd).size) (HS.out.keep hkd))
  go_region_law (go_simp; go_at_call 51; refine HC.out.mono ?_; intro e2 W1 hp; have HP := Lib.hid hp; have hsh := hp.shape; obtain ⟨ev, rfl⟩ := hp.ret; clear hp)
  all_goals
    rcases hsh with ⟨hr, e1⟩ | ⟨ub, hr, e1⟩
    · cases e1
      have HR := Lib.hid hr
      have HK1 := Lib.hid (HK0.out.trans0 (hkd.trans0 HP.out.1))
      have hbw := HK1.out.some HB.out (by simp)
      have d1 := cell_of_block hbw 1
      have d3 := cell_of_block hbw 3
      simp at d1 d3
      have hbn := block_alloc W1 (.cells #[.string (bs s)] 9)
      have hbs1 := (hkd.trans0 HP.out.1).some HBS.out (by simp)
      have HX := Lib.hid (fun (W2 : World) (nb : Nat) (hnb : W2.heap[nb]? = some (.cells #[.slice (some ⟨W1.heap.size, 0, none⟩) 1 1] 27 (0, 0))) (hk1 : Keeps [] (W1.alloc (.cells #[.string (bs s)] 9)) W2) =>
        HIH.out W2 lo hi _ 92 #[.pointer (some ⟨nb, 0, none⟩), .pointer (some ⟨w.heap.size, 0, none⟩)] ([s] ++ l)
          (ExprAt.keep (fun b h1 h2 => ((HK1.out.alloc _).trans0 hk1).block b (by omega) (by simp)) _ _ _ _ HE.out) (Nat.le_trans hhi ((HK1.out.alloc _).trans0 hk1).size)
          (scope1 (HS.out.keep (((hkd.trans0 HP.out.1).alloc _).trans0 hk1)) ((names_one hbn).keep hk1) (by simp) hnb (hk1.some (block_alloc_old hbs1) (by simp))))
      have hsz1 : b < W1.heap.size := lt_of_some hbw
      clear hr hbw hbn hbs1 c1 c2 c3
      go_wp2_with fail
      go_region_law (first
        | (go_simp; go_at_call 91; refine (with_any' _ _ ⟨_, _, _, rfl⟩ _).mono ?_; rintro e1 W2 ⟨nb, rfl, hnb, hk1⟩; have HCALL := Lib.hid (HX.out W2 nb hnb ((Keeps.refl [] _).drew.trans0 hk1)); have HK2 := Lib.hid (((HK1.out.alloc _).drew.trans0 hk1 : Keeps [] w W2)); have d2 : W2.cell? ⟨b, 3, none⟩ = some (ifp ty bb) := cell_of_block (HK2.out.some HB.out (by simp)) 3; clear hnb hk1)
        | (go_simp; go_at_call 51; refine HCALL.out.mono ?_; intro e2 W3 hp; have HP3 := Lib.hid hp; obtain ⟨ev, rfl⟩ := hp.ret; clear hp))
      all_goals
        go_wp2
        go_ret
        have h1 : unbound (.letin p s x e) l = unbound e (s :: l) := by
          simp only [unbound, HR.out, Option.none_or]
        rw [h1]
        exact HP3.out.pre HK2.out
    · cases e1
      have HR := Lib.hid hr
      clear hr
      go_wp2_with fail
      go_ret
      have h1 : unbound (.letin p s x e) l = unbound x l := by
        simp only [unbound]
        cases hx : unbound x l with
        | none => exact absurd hx HR.out
        | some q => rfl
      rw [h1]
      exact HP.out.pre (HK0.out.trans0 hkd)

set_option maxRecDepth 100000 in
set_option maxHeartbeats 4000000 in
theorem unb_rec {n : Nat} (hih : UbIH n) (hn : n < 65536) {p : Nat} {g : Exp} (hz : esz (.recr p g) ≤ n + 1) (hw : wfE false (.recr p g) = true) {w : World} {lo hi : Nat} {l : List Bytes} {b : Nat} {kf : FuncId} {caps : Array Value}
    (h : ExprAt w lo hi (.recr p g) [] [] (ifp 218 b)) (hhi : hi ≤ w.heap.size) (hs : ScopeOK kf caps w l) :
    Calls Tryz.prog 51 #[ifp 218 b, .func (.func kf) #[] caps] w (UbPost w (unbound (.recr p g) l)) := by
  have h0 := h
  obtain ⟨_, _, b', ns, vs, sn, sl, vf, h3, h4, e', hb, hrn, hrl, hg⟩ := h
  cases e'
  have hwg : wfE true g = true := by simp only [wfE, Bool.and_eq_true] at hw; exact hw.2
  obtain rfl : ns = gNames g := (group_at g hwg _ _ _ hg).2.2
  have hnl : (gNames g).length ≤ 65536 := by
    have h1 := (group_at g hwg _ _ _ hg).1.length
    have h2 := (esz_group g).2.2
    have h5 : (gNames g).length = (gBodies g).length := ub_names_len g
    rw [h5]
    simp only [esz] at hz
    omega
  have hk0 : Keeps [] w (w.alloc (.cells #[.func (.func kf) #[] caps] 57)) := (Keeps.refl [] w).alloc _
  have HS := Lib.hid (hs.keep hk0)
  have HK0 := Lib.hid hk0
  have HB := Lib.hid hb
  have HIH := Lib.hid hih
  have hnam : NamesAt w sn (gNames g) := hrn.widen (Nat.zero_le _) hhi
  have HNAM := Lib.hid hnam
  have HU := Lib.hid (show unbound (.recr p g) l = unboundL (kids (.recr p g)) (gNames g ++ l) by
    simp only [unbound, kids]
    rw [unbound_group g hwg])
  have HBW := Lib.hid (fun W (hk : Keeps [] w W) => below_any (ExprAt.keep (fun b h1 h2 => hk.block b (by omega) (by simp)) _ _ _ _ h0) hw (by omega : esz (.recr p g) ≤ 65536))
  have HKL := Lib.hid (show (kids (.recr p g)).length ≤ 65536 by have := kids_len (.recr p g); omega)
  have HKD := Lib.hid (show ∀ a ∈ kids (.recr p g), esz a ≤ n ∧ wfE false a = true from fun a ha => ⟨by have := esz_kids ha; omega, wfE_kids hw ha⟩)
  have q1 := taRecName (.pointer (some ⟨b, 0, none⟩))
  have q2 := taRecFun (.pointer (some ⟨b, 0, none⟩))
  have q3 := taRecLet (.pointer (some ⟨b, 0, none⟩))
  have q4 := taRecRec (.pointer (some ⟨b, 0, none⟩))
  have hbw := hk0.some hb (by simp)
  have c1 := cell_of_block hbw 1
  simp at c1
  have hlt := lt_of_some hb
  have hbs := block_alloc w (.cells #[.func (.func kf) #[] caps] 57)
  have HBS := Lib.hid hbs
  obtain ⟨ad, cp, rfl, _⟩ := hnam.shape
  clear hs hk0 hb hbw hih hbs hg hrn hrl h0 hw hwg hnam
  go_enter Tryz.func51, Tryz.ntmps51
  go_wp2_with fail
  have hkd : Keeps [] (w.alloc (.cells #[.func (.func kf) #[] caps] 57)) (w.alloc (.cells #[.func (.func kf) #[] caps] 57)).drew := (Keeps.refl [] _).drew
  go_region_law (first
    | (go_simp
       go_at_call 95
       refine (HBW.out _ (HK0.out.trans0 hkd)).mono ?_
       rintro e W1 ⟨sv, vs, rfl, hown, hall, hkb⟩
       have hk1 := hkd.trans0 hkb
       obtain ⟨ad2, cap2, rfl, hcl⟩ := ownsRow_shape hown
       have HOWN := Lib.hid (show VCells W1 ad2 vs from hcl)
       have HALL := Lib.hid (hall.keep (fun b h1 h2 => hkb.block b (by have := (HK0.out.trans0 hkd).size; omega) (by simp)))
       have hlen : vs.length ≤ 65536 := hall.length ▸ HKL.out
       have d1 : W1.cell? ⟨b, 1, none⟩ = some (.slice ad (gNames g).length cp) := cell_of_block ((HK0.out.trans0 hk1).some HB.out (by simp)) 1
       clear hown hall hkb hcl)
    | (go_simp
       go_at_call 91
       refine (with_any' _ _ ⟨_, _, _, rfl⟩ _).mono ?_
       rintro e1 W2 ⟨nb, rfl, hnb, hkw⟩
       have hk2 := hk1.trans0 hkw
       have HCALL := Lib.hid (first_any HIH.out HKD.out (HALL.out.keep (fun b h1 h2 => hkw.block b (by have := (HK0.out.trans0 hk1).size; omega) (by simp))) (Nat.le_trans hhi (HK0.out.trans0 hk2).size) (HOWN.out.keep hkw) hlen
         (scope1 (HS.out.keep hk2) (HNAM.out.keep (HK0.out.trans0 hk2)) hnl hnb (hk2.some HBS.out (by simp))) (cap := cap2))
       clear hnb hkw)
    | (go_simp
       go_at_call 93
       refine HCALL.out.mono ?_
       intro e2 W3 hp
       have HP := Lib.hid hp
       obtain ⟨ev, rfl⟩ := hp.ret
       clear hp))
  all_goals
    go_wp2
    go_ret
    rw [HU.out]
    exact HP.out.pre (HK0.out.trans0 hk2)

/-- Unbound, whole. -/
theorem unbound_any : ∀ n, n ≤ 65535 → UbIH n := by
  intro n
  induction n with
  | zero => intro _ x hx; have := esz_pos x; omega
  | succ n ih =>
    intro hn x hx hw w lo hi v kf caps l h hhi hs
    have ih' := ih (by omega)
    have h0 := h
    cases x with
    | name p s => obtain ⟨_, _, b, _, _, rfl, _⟩ := h; exact unb_name h0 hs
    | num p s => obtain ⟨_, _, b, _, _, rfl, _⟩ := h; exact unb_other ih' hx (by omega) hw rfl h0 hhi hs taNoNum
    | lam p x b => obtain ⟨_, _, b, _, _, _, rfl, _⟩ := h; exact unb_lam ih' hx hw h0 hhi hs
    | app p f a => obtain ⟨_, _, b, _, _, _, _, rfl, _⟩ := h; exact unb_other ih' hx (by omega) hw (by simp [unbound, kids, unboundL]) h0 hhi hs taNoApp
    | pair p f a => obtain ⟨_, _, b, _, _, _, _, rfl, _⟩ := h; exact unb_other ih' hx (by omega) hw (by simp [unbound, kids, unboundL]) h0 hhi hs taNoPair
    | letin p x f a => obtain ⟨_, _, b, _, _, _, _, rfl, _⟩ := h; exact unb_let ih' hx hw h0 hhi hs
    | cond p c f a => obtain ⟨_, _, b, _, _, _, _, _, rfl, _⟩ := h; exact unb_other ih' hx (by omega) hw (by simp [unbound, kids, unboundL]) h0 hhi hs taNoIf
    | recr p g => obtain ⟨_, _, b, _, _, _, _, _, _, _, rfl, _⟩ := h; exact unb_rec ih' (by omega) hx hw h0 hhi hs
    | bnd x a g => simp [wfE] at hw
    | fin b => simp [wfE] at hw
end Go.Proofs.YtpbplpnifjbkoabGreatDoor

namespace Go.Proofs.YtpbplpnifjbkoabGreatDoor
open Go.RowKit

theorem lookup_mem (env : Env) (s : Bytes) : (env.lookup s).isSome = decide (s ∈ env.map (·.1)) := by
  induction env with
  | nil => simp
  | cons p r ih =>
    obtain ⟨x, sc⟩ := p
    by_cases h : s = x
    · subst h; simp
    · rw [List.lookup_cons, beq_false_of_ne h]
      simp only [ih, List.map_cons, List.mem_cons, h, false_or]
set_option maxRecDepth 100000 in
set_option maxHeartbeats 4000000 in
theorem watch1_scope [Inhabited Low] [Inhabited Bar] {vb : List Nat} {S : Sub} {w : World} {env : Env} {ev : Value} {eb : Nat} (hE : EnvAt vb S w env ev) (hb : w.heap[eb]? = some (.cells #[ev] 114 (0, 0))) :
    ScopeOK 52 #[.pointer (some ⟨eb, 0, none⟩)] w (env.map (·.1)) := by
  refine ⟨fun s W hW => ?_, fun s W => by kernel_rfl⟩
  have henv := EnvAt.keep (hW.kv0.stp vb S) (fun m hm => by cases hm) hE
  have c0 := cell_of_block (hW.some hb (by simp)) 0
  simp at c0
  obtain ⟨ea, rfl⟩ := hE.shape
  have HG := Lib.hid (get_any henv s)
  have HL := Lib.hid (lookup_mem env s)
  clear hE hb henv hW
  show Calls Tryz.prog 52 #[.string (bs s), .pointer (some ⟨eb, 0, none⟩)] W _
  go_enter Tryz.func52, Tryz.ntmps52
  go_wp2_with fail
  refine HG.out.mono ?_
  rintro e w1 ⟨hk, h⟩
  have HK := Lib.hid hk
  have hl := HL.out
  cases hlk : env.lookup s with
  | none =>
    rw [hlk] at h hl
    obtain rfl := h
    have HL2 := Lib.hid hl
    clear hl hk hlk
    go_wp2
    go_ret
    refine ⟨?_, HK.out.alloc _⟩
    rw [← HL2.out]
    rfl
  | some sc =>
    rw [hlk] at h hl
    obtain ⟨t, m, rfl, hs⟩ := h
    obtain ⟨⟨tt, tp, rfl⟩, mm, rfl⟩ := hs.shape
    have HL2 := Lib.hid hl
    clear hs hl hk hlk
    go_wp2
    go_ret
    refine ⟨?_, HK.out.alloc _⟩
    rw [← HL2.out]
    rfl

set_option maxHeartbeats 1000000 in
/-- The deferred closure, where nothing panics. -/
theorem watch2_idle (tb eb : Nat) (w : World) :
    CallsD Tryz.prog 54 #[.pointer (some ⟨tb, 0, none⟩), .pointer (some ⟨eb, 0, none⟩)] .returning w fun e u' w' => e = .returned (.tuple #[]) ∧ u' = .returning ∧ w = w' := by
  refine callsD_of_wpS Tryz.func54 rfl fun c₀ cs hu => ?_
  apply wpS_seq
  apply wpS_region
  simp [wpOpsS, go_sem, recoverD, hu, Tryz.ntmps54, Exit.thenS]
  refine wpS_of_wp ?_
  go_wp2
  cases c₀
  simp_all [bodyPostS, results, Tryz.results54]

theorem taFailure (v : Value) (xT : TypeId) (w : World) : (Instr.typeAssert (.iface 127 v) xT 127 true).run Tryz.prog w = .ok (.tuple #[v, .bool true]) w := by kernel_rfl
set_option maxHeartbeats 1000000 in
/-- The deferred closure, where an inference has failed: the error is kept, no text is given. -/
theorem watch2_panicking (tb eb : Nat) (tv ev : Value) (et : TypeId) (ep : Value) (older : List PanicEntry) (w : World) (hne : tb ≠ eb) (ht : w.heap[tb]? = some (.cells #[tv] 9 (0, 0))) (he : w.heap[eb]? = some (.cells #[ev] 61 (0, 0))) :
    CallsD Tryz.prog 54 #[.pointer (some ⟨tb, 0, none⟩), .pointer (some ⟨eb, 0, none⟩)] (.panicking ({ v := failV (.iface et ep), recovered := false } :: older)) w fun e u' w' => e = .returned (.tuple #[]) ∧ u' = .panicking ({ v := failV (.iface et ep), recovered := true } :: older) ∧
      w'.heap[tb]? = some (.cells #[.string ⟨#[]⟩] 9 (0, 0)) ∧ w'.heap[eb]? = some (.cells #[.iface et ep] 61 (0, 0)) ∧ Keeps [tb, eb] w w' := by
  have c0 : w.cell? ⟨tb, 0, none⟩ = some tv := cell_of_block ht 0
  have c1 : w.cell? ⟨eb, 0, none⟩ = some ev := cell_of_block he 0
  have f0 : w.frozen? ⟨tb, 0, none⟩ = false := free_of_block ht 0
  have f1 : w.frozen? ⟨eb, 0, none⟩ = false := free_of_block he 0
  have l0 : tb < w.heap.size := lt_of_some ht
  have l1 : eb < w.heap.size := lt_of_some he
  have q := taFailure (.agg #[.iface et ep]) 20
  refine callsD_of_wpS Tryz.func54 rfl fun c₀ cs hu => ?_
  apply wpS_seq
  apply wpS_region
  simp [wpOpsS, go_sem, recoverD, hu, Tryz.ntmps54, Exit.thenS]
  refine wpS_of_wp ?_
  go_wp2_with fail
  go_region
  all_goals
    go_wp2
    have a1 : ∀ o', ((((w.setCell ⟨tb, 0, none⟩ (.string ⟨#[]⟩)).setCell ⟨eb, 0, none⟩ (.iface et ep)).alloc o').drew).heap[tb]? = some (.cells #[.string ⟨#[]⟩] 9 (0, 0)) := fun o' => block_alloc_old (block_setCell_other (block_setCell ht 0 (.string ⟨#[]⟩)) _ _ (by simpa using hne))
    have a2 : ∀ o', ((((w.setCell ⟨tb, 0, none⟩ (.string ⟨#[]⟩)).setCell ⟨eb, 0, none⟩ (.iface et ep)).alloc o').drew).heap[eb]? = some (.cells #[.iface et ep] 61 (0, 0)) := fun o' => block_alloc_old (block_setCell (block_setCell_other he _ _ (by simpa using hne.symm)) 0 (.iface et ep))
    have b1 : ∀ o', ((((w.setCell ⟨eb, 0, none⟩ (.iface et ep)).setCell ⟨tb, 0, none⟩ (.string ⟨#[]⟩)).alloc o').drew).heap[tb]? = some (.cells #[.string ⟨#[]⟩] 9 (0, 0)) := fun o' => block_alloc_old (block_setCell (block_setCell_other ht _ _ (by simpa using hne)) 0 (.string ⟨#[]⟩))
    have b2 : ∀ o', ((((w.setCell ⟨eb, 0, none⟩ (.iface et ep)).setCell ⟨tb, 0, none⟩ (.string ⟨#[]⟩)).alloc o').drew).heap[eb]? = some (.cells #[.iface et ep] 61 (0, 0)) := fun o' => block_alloc_old (block_setCell_other (block_setCell he 0 (.iface et ep)) _ _ (by simpa using hne.symm))
    refine ⟨rfl, _, rfl, .tuple #[], by simp [results, Tryz.results54], rfl, rfl, ?_, ?_, ?_⟩
    · first | exact a1 _ | exact b1 _
    · first | exact a2 _ | exact b2 _
    · repeat (first | exact Keeps.refl _ _ | refine Keeps.drew ?_ | refine Keeps.alloc ?_ _ | refine Keeps.setCell ?_ (Or.inl (by simp)) _)
end Go.Proofs.YtpbplpnifjbkoabGreatDoor

namespace Go.Proofs.YtpbplpnifjbkoabGreatDoor
open Go.RowKit

/-- How an error of Infer's lies in memory. -/
def OutAt (a : Nat → Addr) (w : World) (f : FaultR) (v : Value) : Prop :=
  (f = ⟨0, 0, [], 0, 0⟩ ∧ v = .nilIface) ∨ (∃ g : Nat × Nat, f = ⟨g.1, placeOf g, [], 0, 0⟩ ∧ ErrAt a w g v) ∨
  (∃ (c : Nat) (n : Bytes) (r : Option (Nat × Nat)), v = ifp 137 c ∧ EnvErrAt a w c (bs n) r ∧ f = match r with
    | none => ⟨5, 0, n, 0, 0⟩
    | some g => ⟨5, 0, n, g.1, placeOf g⟩) ∨
  (∃ (c p : Nat) (s : Bytes), v = ifp 136 c ∧ w.heap[c]? = some (.cells #[.int .i64 p, .string (bs s)] 149 (0, 0)) ∧ f = ⟨4, p, s, 0, 0⟩)

/-- The environment, by names rising. -/
def pairsF (f : Bytes → Option Bytes) (ks : List Bytes) : List (Bytes × Bytes) := ks.map fun x => (x, (f x).getD [])
/-- What is asked of those who watch. -/
structure WatK (a : Nat → Addr) (B fuel : Nat) (each : Value) (watch : Option Nat) (Mw : List Nat) (wst : List Told → World → Prop) (w : World) (x : Exp) : Prop where
  of_ : ∀ (L : Inhabited Low) (Br : Inhabited Bar) (lo hi gb ab : Nat), @Rig L a B lo hi gb ab Mw wst → @OfOK L Br a B lo hi gb ab fuel 400 each watch Mw wst x
  wat : ∀ (L : Inhabited Low) (ab : Nat), w.heap.size ≤ ab → @Wat L ab Mw wst
  mw : ∀ m ∈ Mw, B ≤ m ∧ m < w.heap.size

def WatchPost (a : Nat → Addr) (Mw : List Nat) (wst : List Told → World → Prop) (w : World) (r : Bytes × FaultR × List Told) (e : Ending) (w' : World) : Prop :=
  Keeps Mw w w' ∧ wst r.2.2 w' ∧ ∃ v, e = .returned (.tuple #[.string (bs r.1), v]) ∧ OutAt a w' r.2.1 v

theorem OutAt.keepM {a : Nat → Addr} {w w' : World} {f : FaultR} {v : Value} {M : List Nat} (h : OutAt a w f v) (hk : Keeps M w w') (hM : ∀ m ∈ M, ∃ cs T z, w.heap[m]? = some (.cells cs T z) ∧ (T = 9 ∨ T = 61)) : OutAt a w' f v := by
  have hM1 : ∀ m ∈ M, ∃ cs T z, w.heap[m]? = some (.cells cs T z) ∧ T ≠ 146 := fun m hm => by
    obtain ⟨cs, T, z, h1, h2⟩ := hM m hm
    exact ⟨cs, T, z, h1, by rcases h2 with rfl | rfl <;> decide⟩
  rcases h with h | ⟨g, h1, h2⟩ | ⟨c, n, r, h1, ⟨u, h2, h3⟩, h4⟩ | ⟨c, p, s, h1, h2, h3⟩
  · exact .inl h
  · exact .inr (.inl ⟨g, h1, errAt_keepsM h2 hk hM1⟩)
  · refine .inr (.inr (.inl ⟨c, n, r, h1, ⟨u, hk.some h2 fun hm => ?_, ?_⟩, h4⟩))
    · obtain ⟨cs, T, z, e1, e2⟩ := hM c hm
      rw [h2] at e1
      cases e1
      rcases e2 with e2 | e2 <;> exact absurd e2 (by decide)
    · cases r with
      | none => exact h3
      | some f => exact errAt_keepsM h3 hk hM1
  · refine .inr (.inr (.inr ⟨c, p, s, h1, hk.some h2 fun hm => ?_, h3⟩))
    obtain ⟨cs, T, z, e1, e2⟩ := hM c hm
    rw [h2] at e1
    cases e1
    rcases e2 with e2 | e2 <;> exact absurd e2 (by decide)
theorem watch_fin {a : Nat → Addr} {Mw : List Nat} {wst : List Told → World → Prop} {w W W' : World} {f : FaultR} {v : Value} (hst : wst [] w) (hkeep : ∀ l W W', wst l W → Keeps [] W W' → wst l W') (hk : Keeps [] w W) (hk2 : Keeps [w.heap.size, w.heap.size + 1] W W')
    (ht : ∃ x, W.heap[w.heap.size]? = some (.cells #[x] 9 (0, 0))) (he : ∃ x, W.heap[w.heap.size + 1]? = some (.cells #[x] 61 (0, 0))) (ho : OutAt a W f v) : WatchPost a Mw wst w ([], f, []) (.returned (.tuple #[.string ⟨#[]⟩, v])) W' := by
  have hk3 : Keeps [] w W' := hk.trans hk2 (by simp)
  refine ⟨hk3.mono (by simp), hkeep _ _ _ hst hk3, v, rfl, ho.keepM hk2 fun m hm => ?_⟩
  simp only [List.mem_cons, List.not_mem_nil, or_false] at hm
  rcases hm with rfl | rfl
  · obtain ⟨x, hx⟩ := ht
    exact ⟨_, _, _, hx, .inl rfl⟩
  · obtain ⟨x, hx⟩ := he
    exact ⟨_, _, _, hx, .inr rfl⟩

theorem row_block {w : World} {base : Nat} {E : TypeId} {v : Value} {xs : List Value} (h : w.ownsRow base E 1 v xs.length xs) : ∀ (j : Nat) (x : Value), xs[j]? = some x → ∃ g cap cur, v = .slice (some ⟨g, 0, none⟩) xs.length cap ∧ base ≤ g ∧ w.heap[g]? = some (.cells cur E (0, 0)) ∧ cur[j]? = some x := by
  intro j x hx
  have hj := (List.getElem?_eq_some_iff.1 hx).1
  rcases h.2 with ⟨h1, h2⟩ | ⟨g, cap, cur, h1, h2, h3, h4, h5, h6, h7⟩
  · omega
  · refine ⟨g, cap, cur, h1, h2, h3, ?_⟩
    rw [Nat.mul_one] at h7
    have h8 : (cur.toList.take xs.length)[j]? = some x := by rw [h7]; exact hx
    rw [List.getElem?_take, if_pos hj] at h8
    simpa using h8
theorem envOf_app (xs ys : List (Bytes × Bytes)) : ∀ (S : Sub) (e : Env), envOf (xs ++ ys) S e = match envOf xs S e with
    | .error f => .error f
    | .ok (e', S') => envOf ys S' e' := by
  induction xs with
  | nil => intro S e; rfl
  | cons p r ih =>
    intro S e
    obtain ⟨n, t⟩ := p
    simp only [List.cons_append, envOf]
    by_cases hn : isName n = true
    · rw [if_pos hn, if_pos hn]
      cases hr : readTyp t with
      | error f => rfl
      | ok q => simp only [ih]
    · rw [if_neg hn, if_neg hn]
theorem envOf_one (n t : Bytes) (n0 : Nat) (e : Env) : envOf [(n, t)] (idS n0) e = if isName n = true then
    (match readTyp t with
    | .error f => .error ⟨5, 0, n, f.1, f.2⟩
    | .ok q => .ok ((n, ⟨q.1.shift (n0 + 1), varsL (q.1.shift (n0 + 1)) []⟩) :: e, idS (n0 + q.2.length))) else .error ⟨5, 0, n, 0, 0⟩ := by
  simp only [envOf]
  by_cases hn : isName n = true
  · rw [if_pos hn, if_pos hn]
    cases hr : readTyp t with
    | error f => rfl
    | ok q => simp only [idS_len, idS_add]
  · rw [if_neg hn, if_neg hn]
theorem readTyp_place {s : Bytes} {f : Nat × Nat} (h : readTyp s = .error f) : f.2 = placeOf f := by
  by_cases hs : 300 < s.length
  · unfold readTyp at h; rw [if_pos hs] at h; cases h; rfl
  · obtain ⟨res, hres, _⟩ := readTyp_spec s (by omega)
    rw [readTyp_eq hs hres] at h
    cases res with
    | error p => simp [finT] at h; subst h; rfl
    | ok q =>
      obtain ⟨x, ts⟩ := q
      simp only [finT] at h
      split at h
      · split at h
        · cases h; rfl
        · cases h
      · cases h; rfl

def SzP (r : M Ty) : Prop := ∀ (t : Ty) (st : St), r = some (.ok (t, st)) → (t.ap st.S).size ≤ 120
theorem szp_sized (t : Ty) (st : St) : SzP (sized t st) := by
  intro t' st' h
  unfold sized at h
  split at h
  · cases h
  · cases h; omega
theorem szp_none : SzP none := fun t st h => by cases h
theorem szp_bind {α : Type} {m : M α} {f : α → St → M Ty} (h : ∀ a s, SzP (f a s)) : SzP (m.bind f) := by
  intro t st hb
  cases m with
  | none => cases hb
  | some r =>
    cases r with
    | error p => cases hb
    | ok q => exact h _ _ t st hb
theorem of_size (uf fuel : Nat) (watch : Option Nat) (x : Exp) (env : Env) (st : St) : SzP (ofE uf fuel watch x env st) := by
  cases x <;> simp only [ofE]
  all_goals repeat (first | exact szp_sized _ _ | exact szp_none | (refine szp_bind (fun _ _ => ?_)) | split)
theorem TyE.tvq [Inhabited Low] [Inhabited Bar] {vb : List Nat} {w : World} (hl : vb.length ≤ 100000) : ∀ {t : Ty} {v : Value}, TyE vb w t v → TyV (fun n _ => n ≤ 1000000000) w t v
  | .var _, _, ⟨b, nm, _, h2, h, h'⟩ => ⟨b, nm, h, h', by have := (List.getElem?_eq_some_iff.1 h2).1; omega⟩
  | .int, _, ⟨c, f, h⟩ => ⟨c, f, h.2⟩
  | .bool, _, ⟨c, f, h⟩ => ⟨c, f, h.2⟩
  | .list _, _, ⟨c, sv, va, h, h1, h2, h3⟩ => ⟨c, sv, va, h, h1.2, h2.v, TyE.tvq hl h3⟩
  | .pair _ _, _, ⟨c, sv, va, vc, h, h1, h2, h3, h4⟩ => ⟨c, sv, va, vc, h, h1.2, h2.v, TyE.tvq hl h3, TyE.tvq hl h4⟩
  | .arr _ _, _, ⟨c, sv, va, vc, h, h1, h2, h3, h4⟩ => ⟨c, sv, va, vc, h, h1.2, h2.v, TyE.tvq hl h3, TyE.tvq hl h4⟩

set_option maxRecDepth 100000 in
set_option maxHeartbeats 4000000 in
theorem watch_any {a : Nat → Addr} {B : Nat} {w : World} (hG : Gl a B w) (src : Bytes) {mb nn : Nat} {f : Bytes → Option Bytes} {ks : List Bytes} (hmap : TMap w mb nn f) (hks : ksOf ks = ks) (hnd : ks.Nodup) (hmem : ∀ x, x ∈ ks ↔ (f x).isSome = true) (hfew : ks.length ≤ 150) (hlen : ∀ x ∈ ks, x.length ≤ 1000)
    (fuel : Int) (hfu : -9223372036854775808 ≤ fuel ∧ fuel ≤ 9223372036854775807) (each : Value) (heach : each = .nilFunc) (watch : Option Nat) (Mw : List Nat) (wst : List Told → World → Prop) (hst : wst [] w) (hkeep : ∀ l W W' M, wst l W → (∀ m ∈ M, w.heap.size ≤ m) → Keeps M W W' → wst l W') (hW : ∀ x, readExp src = .ok x → WatK a B fuel.toNat each watch Mw wst w x) {r : Bytes × FaultR × List Told} (hr4 : (r.2.1.what ≠ 4 ∧ r.2.1.what ≠ 5) ∨ r.2.1.s ≠ []) (hr : inferP 400 src (pairsF f ks) fuel watch = some r) :
    Calls Tryz.prog 23 #[.string (bs src), .map (some mb), .int .i64 fuel, each] w (WatchPost a Mw wst w r) := by
  subst heach
  have hmf : ∀ (fn : Fn) (first cap : Array Value) (w : World), (Instr.makeFunc fn first cap).run Tryz.prog w = .ok (.func fn first cap) w := fun _ _ _ _ => rfl
  have HG := Lib.hid hG
  have HM := Lib.hid hmap
  have HKS := Lib.hid hks
  have HND := Lib.hid hnd
  have HMEM := Lib.hid hmem
  have HLEN := Lib.hid hlen
  have HW := Lib.hid hW
  have HR := Lib.hid hr
  have HST := Lib.hid hst
  have HKP := Lib.hid (fun l W W' (h : wst l W) (k : Keeps [] W W') => hkeep l W W' [] h (by simp) k)
  have HKM := Lib.hid hkeep
  have hk0 : Keeps [] w ((w.alloc (.cells #[.string ⟨#[]⟩] 9)).alloc (.cells #[.nilIface] 61)) := ((Keeps.refl [] w).alloc _).alloc _
  have hbt := block_alloc_old (o' := .cells #[.nilIface] 61) (block_alloc w (.cells #[.string ⟨#[]⟩] 9))
  have hbe := block_alloc (w.alloc (.cells #[.string ⟨#[]⟩] 9)) (.cells #[.nilIface] 61)
  rw [show (w.alloc (.cells #[.string ⟨#[]⟩] 9)).heap.size = w.heap.size + 1 by simp] at hbe
  have HK0 := Lib.hid hk0
  have HBT := Lib.hid hbt
  have HBE := Lib.hid hbe
  clear hG hmap hks hnd hmem hlen hW hr hst hkeep hk0 hbt hbe
  go_enter_defers Tryz.func23, Tryz.ntmps23
  go_wp2_with fail
  refine (read_any _ (HG.out.keeps HK0.out (by simp)) (bs src)).mono ?_
  rintro e w1 ⟨hk1, h⟩
  rw [bs_data] at h
  have hbt := hk1.some HBT.out (by simp)
  have hbe := hk1.some HBE.out (by simp)
  have hkw := HK0.out.trans0 hk1
  have t0 := cell_of_block hbt 0
  have t1 := free_of_block hbt 0
  have e0 := cell_of_block hbe 0
  have e1 := free_of_block hbe 0
  have tl := lt_of_some hbt
  have el := lt_of_some hbe
  simp at t0 e0
  have HBT1 := Lib.hid hbt
  have HBE1 := Lib.hid hbe
  have HKW := Lib.hid hkw
  clear hbt hbe hkw hk1
  cases hx : readExp src with
  | error g =>
    rw [hx] at h
    obtain ⟨v, u, rfl, he⟩ := h
    obtain ⟨et, ep, rfl⟩ := errAt_shape he
    have HER := Lib.hid he
    have HX := Lib.hid hx
    have hrr : r = ([], ⟨g.1, placeOf g, [], 0, 0⟩, []) := by
      have h := HR.out
      simp only [inferP, hx] at h
      rw [← Option.some.inj h]
      rfl
    have HRR := Lib.hid hrr
    clear he hx hrr
    go_wp2_with fail
    go_region
    all_goals
      go_wp2
      simp [bodyPostD, Leaves, results, Tryz.results23, go_sem, t0, e0]
      rw [HRR.out]
      refine watch_fin HST.out HKP.out HKW.out ?_ ⟨_, HBT1.out⟩ ⟨_, HBE1.out⟩ (.inr (.inl ⟨g, rfl, HER.out⟩))
      repeat (first | exact Keeps.refl _ _ | refine Keeps.drew ?_ | refine Keeps.alloc ?_ _ | refine Keeps.setCell ?_ (Or.inl (by simp)) _)
  | ok x =>
    rw [hx] at h
    have HX := Lib.hid hx
    obtain ⟨ty, bb, rfl, hex, hwf, hes, htx⟩ := h
    have HEX := Lib.hid hex
    have HWF := Lib.hid hwf
    have HES := Lib.hid hes
    clear hx hex hwf hes htx
    have g2 := (HG.out.keeps HKW.out (by simp)).v2
    have p2 : 0 < w.heap.size := lt_of_cell HG.out.v2
    have n1 : ¬ (w.heap.size = 0) := by omega
    have n2 : ¬ (w.heap.size + 1 = 0) := by omega
    have n3 : ¬ (0 = w.heap.size) := by omega
    have n4 : ¬ (0 = w.heap.size + 1) := by omega
    by_cases hf1 : fuel < 1 ∨ 12 < fuel
    · have hrr : r = ([], ⟨6, 0, [], 0, 0⟩, []) := by
        have h := HR.out
        simp only [inferP, HX.out, if_pos hf1] at h
        exact (Option.some.inj h).symm
      have HRR := Lib.hid hrr
      clear hrr
      by_cases hf2 : fuel < 1
      · have hd : decide (fuel < 1) = true := by simpa using hf2
        go_wp2_with fail
        go_region
        all_goals
          go_wp2
          simp [bodyPostD, Leaves, results, Tryz.results23, go_sem, t0, e0]
          rw [HRR.out]
          refine watch_fin HST.out HKP.out HKW.out ?_ ⟨_, HBT1.out⟩ ⟨_, HBE1.out⟩ (.inr (.inl ⟨(6, 0), rfl, .inl ⟨2, rfl, rfl⟩⟩))
          repeat (first | exact Keeps.refl _ _ | refine Keeps.drew ?_ | refine Keeps.alloc ?_ _ | refine Keeps.setCell ?_ (Or.inl (by simp)) _)
      · have hd : decide (fuel < 1) = false := by simpa using hf2
        have hd2 : decide (12 < fuel) = true := by simp; omega
        go_wp2_with fail
        go_region
        all_goals
          go_wp2
          simp [bodyPostD, Leaves, results, Tryz.results23, go_sem, t0, e0]
          rw [HRR.out]
          refine watch_fin HST.out HKP.out HKW.out ?_ ⟨_, HBT1.out⟩ ⟨_, HBE1.out⟩ (.inr (.inl ⟨(6, 0), rfl, .inl ⟨2, rfl, rfl⟩⟩))
          repeat (first | exact Keeps.refl _ _ | refine Keeps.drew ?_ | refine Keeps.alloc ?_ _ | refine Keeps.setCell ?_ (Or.inl (by simp)) _)
    · have hd : decide (fuel < 1) = false := by simp; omega
      have hd2 : decide (12 < fuel) = false := by simp; omega
      have hkA : Keeps [] w (((w1.setCell ⟨w.heap.size + 1, 0, none⟩ .nilIface).alloc (.cells #[.int .i64 0] 113)).alloc (.cells #[.pointer none] 114)) := ((HKW.out.setCell (.inr (by simp)) _).alloc _).alloc _
      have hkB : Keeps [w.heap.size + 1] w1 (((w1.setCell ⟨w.heap.size + 1, 0, none⟩ .nilIface).alloc (.cells #[.int .i64 0] 113)).alloc (.cells #[.pointer none] 114)) := (((Keeps.refl _ w1).setCell (.inl (by simp)) _).alloc _).alloc _
      have hs1 : (w1.setCell ⟨w.heap.size + 1, 0, none⟩ .nilIface).heap.size = w1.heap.size := by simp
      have hs2 : ((w1.setCell ⟨w.heap.size + 1, 0, none⟩ .nilIface).alloc (.cells #[.int .i64 0] 113)).heap.size = w1.heap.size + 1 := by simp
      have hab := block_alloc_old (o' := .cells #[.pointer none] 114) (block_alloc (w1.setCell ⟨w.heap.size + 1, 0, none⟩ .nilIface) (.cells #[.int .i64 0] 113))
      have hec := block_alloc ((w1.setCell ⟨w.heap.size + 1, 0, none⟩ .nilIface).alloc (.cells #[.int .i64 0] 113)) (.cells #[.pointer none] 114)
      have hbt := block_alloc_old (o' := .cells #[.pointer none] 114) (block_alloc_old (o' := .cells #[.int .i64 0] 113) (block_setCell_other HBT1.out ⟨w.heap.size + 1, 0, none⟩ .nilIface (by simp)))
      have hbe := block_alloc_old (o' := .cells #[.pointer none] 114) (block_alloc_old (o' := .cells #[.int .i64 0] 113) (block_setCell HBE1.out 0 .nilIface))
      rw [hs1] at hab
      rw [hs2] at hec
      go_wp2_with fail
      revert hkA hkB hab hec hbt hbe
      generalize (((w1.setCell ⟨w.heap.size + 1, 0, none⟩ .nilIface).alloc (.cells #[.int .i64 0] 113)).alloc (.cells #[.pointer none] 114)) = W
      intro hkA hkB hab hec hbt hbe
      refine (Tryz.keys_call (some mb) _).mono ?_
      rintro e w2 ⟨rfl, rfl⟩
      have hmapW : TMap W mb nn f := HM.out.same (hkA.block _ HM.out.lt (by simp))
      have HMW := Lib.hid hmapW
      have HKA := Lib.hid hkA
      have HKB := Lib.hid hkB
      have HAB := Lib.hid hab
      have HEC := Lib.hid hec
      have HBTW := Lib.hid hbt
      have HBEW := Lib.hid hbe
      obtain ⟨D, hown, hperm, hsize⟩ := hmapW.keys HND.out HMEM.out
      clear hkA hkB hab hec hbt hbe hmapW hs1 hs2 t0 t1 e0 e1
      go_wp2_with fail
      refine ((callsIn_wide (n := 5)).1 (Tryz.slices_Sorted_keys_45_46 mb nn D tyElem W hown (by rw [hsize]; unfold maxLen; omega) (by rw [hsize]; omega))).mono ?_
      rintro e w2 ⟨sv, kss, rfl, hkss, hrow, hnil, hbl⟩
      have hk2 : Keeps [] W w2 := (((Keeps.refl [] W).alloc _)).trans0 ⟨hbl.os, hbl.tape, hbl.output, hbl.size, fun k hk _ => hbl.block k hk⟩
      have hsort : kss.mergeSort (fun x y => decide (x ≤ y)) = ks := (mergeSort_of_perm (hkss.trans hperm.symm)).trans HKS.out
      rw [hsort] at hrow
      have hklen : kss.length = ks.length := hkss.length_eq.trans hperm.length_eq.symm
      have hrow' := hrow
      rw [hklen, show ks.length = (ks.map encStr).length by simp] at hrow'
      have hrb := row_block hrow'
      obtain ⟨ad, cap, rfl, hcells⟩ := ownsRow_shape hrow
      rw [hklen] at hrb ⊢
      have HC := Lib.hid hrb
      clear hrow' hrb
      have HK2 := Lib.hid hk2
      clear hkss hrow hnil hbl hk2 hsort hklen hcells hown hperm hsize
      letI iL : Inhabited Low := ⟨⟨w1.heap.size⟩⟩
      letI iB : Inhabited Bar := ⟨⟨[]⟩⟩
      have hlow : lowB = w1.heap.size := rfl
      have hbar : barB = [] := rfl
      have HABx := Lib.hid (HK2.out.some HAB.out (by simp))
      have HECx := Lib.hid (HK2.out.some HEC.out (by simp))
      have HBTx := Lib.hid (HK2.out.some HBTW.out (by simp))
      have HBEx := Lib.hid (HK2.out.some HBEW.out (by simp))
      have HMx := Lib.hid (HMW.out.same (HK2.out.block _ HMW.out.lt (by simp)))
      have HKAx := Lib.hid (HKA.out.trans0 HK2.out)
      have hszx : w1.heap.size ≤ w2.heap.size := Nat.le_trans HKB.out.size HK2.out.size
      have HENG := Lib.hid (show Eng w1.heap.size [] (idS 0) w2 from ⟨rfl, by simp [idS], by rw [hlow]; exact hszx, fun x hx => by rw [hbar] at hx; simp at hx, fun i b t h _ => by simp at h, idS_fix 0, HABx.out⟩)
      have HKV1 := Lib.hid (show KV [w.heap.size + 1] w1 w2 from (HKB.out.trans0 HK2.out).kv (by simp; rintro o ho; rw [HBE1.out] at ho; cases ho; exact plainO_cells (by decide)))
      have HEXx := Lib.hid (ExprAt.keep (fun b h1 h2 => (HKV1.out.low b (by rw [hlow]; exact h2) h2 (by simp at h1 ⊢; omega))) _ _ _ _ HEX.out)
      have HECW := HEC
      have HMlt := Lib.hid HM.out.lt
      clear HM HMW HAB HEC HBTW HBEW HBT HBE HK0
      go_wp2_with fail
      go_loopg [40] ks.length (fun gg i wx => ∃ (j n0 : Nat) (en : Env) (vb : List Nat) (ev : Value), gg = ks.length - j ∧ i = .int .i64 j ∧ j ≤ ks.length ∧ n0 ≤ 301 * j ∧ envOf ((pairsF f ks).take j) [] [] = .ok (en, idS n0) ∧ wx.heap[w1.heap.size + 1]? = some (.cells #[ev] 114 (0, 0)) ∧ EnvAt vb (idS n0) wx en ev ∧ Eng w1.heap.size vb (idS n0) wx ∧ KV [w1.heap.size, w1.heap.size + 1] w2 wx)
      case atStart => exact ⟨0, 0, [], [], .pointer none, rfl, rfl, by omega, by omega, rfl, HECx.out, rfl, HENG.out, KV.refl _ _⟩
      case round =>
        obtain ⟨j, n0, en, vb, ev, hg, rfl, hj, hn0, henv, hec, hea, heng, hkv⟩ := hrel
        have HGG := Lib.hid hg
        have HENV := Lib.hid henv
        have HEC := Lib.hid hec
        have HEA := Lib.hid hea
        have HEN := Lib.hid heng
        have HKVx := Lib.hid hkv
        obtain ⟨ea, rfl⟩ := hea.shape
        clear hg henv hec hea heng hkv
        by_cases hlt : j < ks.length
        · have hdl : decide ((j : Int) < (ks.length : Int)) = true := by simpa using hlt
          obtain ⟨n, hx⟩ : ∃ n, ks[j]? = some n := ⟨_, List.getElem?_eq_getElem hlt⟩
          obtain ⟨g, cap', cur, hve, hgb, hgo, hgc⟩ := HC.out j (.string (bs n)) (by rw [List.getElem?_map, hx]; rfl)
          rw [List.length_map] at hve
          cases hve
          have hecl := lt_of_some HECx.out
          have hszW := HK2.out.size
          have hgn : g ∉ [w1.heap.size, w1.heap.size + 1] := by
            have h1 : (W.alloc (.cells #[.map (some mb)] 58)).heap.size ≤ g := hgb
            have h2 := lt_of_some HECW.out
            simp at h1 ⊢
            omega
          have hcx : wr.cell? ⟨g, j, none⟩ = some (.string (bs n)) := by
            rw [cell_of_block (HKVx.out.blk hgo hgn (by simp)) j]
            exact hgc
          obtain ⟨es, cl, hmo⟩ := HMx.out.obj
          have hmne : mb ∉ [w1.heap.size, w1.heap.size + 1] := by
            have := HMlt.out
            have := HKW.out.size
            simp; omega
          have hmx : TMap wr mb nn f := HMx.out.same ((HKVx.out.blk hmo hmne (by simp)).trans hmo.symm)
          have hnl : (bs n).size ≤ maxLen := by rw [bs_size]; have := HLEN.out n (List.mem_of_getElem? hx); unfold maxLen; omega
          have hlk := hmx.look1 (bs n) hnl
          rw [bs_data] at hlk
          have hfl := fieldTy ((f n).getD []) wr
          have hfl2 := fieldTy ((f n).getD []) wr.drew
          have hlk2 := (hmx.same (w' := wr.drew) rfl).look1 (bs n) hnl
          rw [bs_data] at hlk2
          have HX1 := Lib.hid hx
          clear hx hgb hgo hgc hmo hmx
          have hBw : B ≤ w.heap.size := HG.out.hi
          have hsz1 := HKW.out.size
          have HGr := Lib.hid ((HG.out.keeps HKAx.out (by simp)).kv HKVx.out (by simp; omega))
          go_wp2_with fail
          refine (scheme_any hbar HGr.out (by rw [hlow]; omega) (by omega) HEN.out (by omega) n _ (HLEN.out n (List.mem_of_getElem? HX1.out))).mono ?_
          rintro e w3 ⟨hk3, hp⟩
          have henv1 : envOf ((pairsF f ks).take (j + 1)) [] [] = envOf [(n, (f n).getD [])] (idS n0) en := by
            rw [take_next' (show (pairsF f ks)[j]? = some (n, (f n).getD []) by simp [pairsF, HX1.out]), envOf_app, HENV.out]
          rw [envOf_one] at henv1
          have HFAIL := Lib.hid (fun (fr : FaultR) (he : envOf ((pairsF f ks).take (j + 1)) [] [] = .error fr) => (show r = ([], fr, []) by
            have hall : envOf (pairsF f ks) [] [] = .error fr := by
              have h1 := envOf_app ((pairsF f ks).take (j + 1)) ((pairsF f ks).drop (j + 1)) [] []
              rw [List.take_append_drop, he] at h1
              exact h1
            have h := HR.out
            simp only [inferP, HX.out, if_neg hf1, hall] at h
            exact (Option.some.inj h).symm))
          have hkx : KV [w.heap.size + 1, w1.heap.size, w1.heap.size + 1] w1 w3 := ((HKV1.out.mono (by simp)).trans HKVx.out (by simp)).trans hk3 (by simp)
          have HKe := Lib.hid (show Keeps [] w w3 from HKW.out.trans (hkx.k0.keeps (Nat.le_of_eq hlow.symm)) (by simp; omega))
          have hbt3 := hk3.blk (HKVx.out.blk HBTx.out (by simp; omega) (by simp)) (by simp; omega) (by simp)
          have hbe3 := hk3.blk (HKVx.out.blk HBEx.out (by simp; omega) (by simp)) (by simp; omega) (by simp)
          have hec3 := hk3.blk HEC.out (by simp) (by simp)
          have t3 := cell_of_block hbt3 0
          have t3' := free_of_block hbt3 0
          have e3 := cell_of_block hbe3 0
          have e3' := free_of_block hbe3 0
          have c3 := cell_of_block hec3 0
          have c3' := free_of_block hec3 0
          have tl3 := lt_of_some hbt3
          have el3 := lt_of_some hbe3
          have cl3 := lt_of_some hec3
          simp at t3 e3 c3
          have HBT3 := Lib.hid hbt3
          have HBE3 := Lib.hid hbe3
          have HEC3 := Lib.hid hec3
          have HKV3 := Lib.hid hk3
          clear hkx hbt3 hbe3 hec3 hlk hlk2 hfl hfl2 hcx hk3
          by_cases hin : isName n = true
          · rw [if_pos hin] at hp henv1
            cases hrd : readTyp ((f n).getD []) with
            | error g1 =>
              rw [hrd] at hp henv1
              obtain ⟨c, rfl, he⟩ := hp
              have HEE := Lib.hid he
              have HRR := Lib.hid (HFAIL.out _ henv1)
              have HPL := Lib.hid (readTyp_place hrd)
              clear he henv1 hrd
              go_wp2_with fail
              all_goals
                simp [bodyPostD, Leaves, results, Tryz.results23, go_sem, tl3, el3, t3, e3]
                rw [HRR.out]
                refine watch_fin HST.out HKP.out HKe.out ?_ ⟨_, HBT3.out⟩ ⟨_, HBE3.out⟩ (.inr (.inr (.inl ⟨c, n, some g1, rfl, HEE.out, by show (⟨5, 0, n, g1.1, g1.2⟩ : FaultR) = ⟨5, 0, n, g1.1, placeOf g1⟩; rw [← HPL.out]⟩)))
                repeat (first | exact Keeps.refl _ _ | refine Keeps.drew ?_ | refine Keeps.alloc ?_ _ | refine Keeps.setCell ?_ (Or.inl (by simp)) _)
            | ok q =>
              rw [hrd] at hp henv1
              obtain ⟨bl, tv, m, rfl, heng, hsch, hst⟩ := hp
              have hq := (readTyp_ok hrd).few
              obtain ⟨⟨tt, tp, rfl⟩, mm, rfl⟩ := hsch.shape
              have HSC := Lib.hid hsch
              have HEN3 := Lib.hid heng
              have HEA3 := Lib.hid (EnvAt.keep hst (fun m hm => by simp only [List.mem_singleton] at hm; subst hm; exact ⟨_, _, _, HEN.out.cnt, by decide⟩) HEA.out)
              have HENV1 := Lib.hid henv1
              clear heng hsch hst henv1 hrd
              have hka := kv_alloc w3 (.cells #[.iface tt tp, .map mm] 119)
              have HKA3 := Lib.hid hka
              have HCALL := Lib.hid (env_with (EnvAt.keep (hka.stp _ _) (fun m hm => by cases hm) HEA3.out) (s := ⟨q.1.shift (n0 + 1), varsL (q.1.shift (n0 + 1)) []⟩) (t := .iface tt tp) (m := .map mm) ⟨hka.te HSC.out.1, HSC.out.2.keep hka.k0 (fun m hm => by cases hm)⟩ n)
              clear hka
              go_wp2_with fail
              refine HCALL.out.mono ?_
              rintro e w4 ⟨sb, rfl, hen4, hk4⟩
              have hka4 := HKA3.out.trans0 hk4.kv0
              have hec4 := hka4.blk HEC3.out (by simp) (by simp)
              have c4 := cell_of_block hec4 0
              have c4' := free_of_block hec4 0
              have cl4 := lt_of_some hec4
              simp at c4
              have HEN4 := Lib.hid hen4
              have HEC4 := Lib.hid hec4
              have HKA4 := Lib.hid hka4
              clear hen4 hk4 hka4 hec4
              go_wp2_with fail
              go_roundg (ks.length - (j + 1))
              case measure => have := HGG.out; omega
              case rel =>
                have hk5 : Keeps [w1.heap.size + 1] w4 _ := (Keeps.refl _ w4).setCell (p := ⟨w1.heap.size + 1, 0, none⟩) (.inl (by simp)) (.pointer (some ⟨sb, 0, none⟩))
                have kv5 := hk5.kv (by simp; rintro o ho; rw [HEC4.out] at ho; cases ho; exact plainO_cells (by decide))
                refine ⟨j + 1, n0 + q.2.length, _, vb ++ bl, .pointer (some ⟨sb, 0, none⟩), rfl, by go_num, by omega, by omega, HENV1.out, block_setCell HEC4.out 0 _, EnvAt.keep (kv5.stp _ _) (fun m hm => ?_) HEN4.out, (HEN3.out.kv HKA4.out (by simp)).kv kv5 (by simp), ((HKVx.out.trans (HKV3.out.trans0 HKA4.out) (by simp)).trans kv5 (by simp))⟩
                simp only [List.mem_singleton] at hm
                subst hm
                exact ⟨_, _, _, HEC4.out, by decide⟩
          · rw [if_neg hin] at hp henv1
            obtain ⟨c, rfl, he⟩ := hp
            have HEE := Lib.hid he
            have HRR := Lib.hid (HFAIL.out _ henv1)
            clear he henv1
            go_wp2_with fail
            all_goals
              simp [bodyPostD, Leaves, results, Tryz.results23, go_sem, tl3, el3, t3, e3]
              rw [HRR.out]
              refine watch_fin HST.out HKP.out HKe.out ?_ ⟨_, HBT3.out⟩ ⟨_, HBE3.out⟩ (.inr (.inr (.inl ⟨c, n, none, rfl, HEE.out, rfl⟩)))
              repeat (first | exact Keeps.refl _ _ | refine Keeps.drew ?_ | refine Keeps.alloc ?_ _ | refine Keeps.setCell ?_ (Or.inl (by simp)) _)
        · have hdl : decide ((j : Int) < (ks.length : Int)) = false := by simpa using hlt
          have hall : envOf (pairsF f ks) [] [] = .ok (en, idS n0) := by
            have := HENV.out
            rwa [List.take_of_length_le (by simp [pairsF]; omega)] at this
          have HALL := Lib.hid hall
          have hBw : B ≤ w.heap.size := HG.out.hi
          have hsz1 := HKW.out.size
          have HGr := Lib.hid ((HG.out.keeps HKAx.out (by simp)).kv HKVx.out (by simp; omega))
          have hkx : KV [w.heap.size + 1, w1.heap.size, w1.heap.size + 1] w1 wr := (HKV1.out.mono (by simp)).trans HKVx.out (by simp)
          have hszr := hkx.size
          have HEXr := Lib.hid (ExprAt.keep (fun b h1 h2 => HKVx.out.low b (by rw [hlow]; exact h2) (by omega) (by simp; omega)) _ _ _ _ HEXx.out)
          have HKr := Lib.hid (show Keeps [] w wr from HKW.out.trans (hkx.k0.keeps (Nat.le_of_eq hlow.symm)) (by simp; omega))
          have hbt3 := HKVx.out.blk HBTx.out (by simp; omega) (by simp)
          have hbe3 := HKVx.out.blk HBEx.out (by simp; omega) (by simp)
          have HBT3 := Lib.hid hbt3
          have HBE3 := Lib.hid hbe3
          have HKX := Lib.hid hkx
          have HUB := Lib.hid (unbound_any 1000 (by omega) x HES.out HWF.out wr _ _ _ _ _ _ HEXr.out hszr (watch1_scope HEA.out HEC.out))
          clear hall hbt3 hbe3 hkx
          go_wp2_with fail
          refine HUB.out.mono ?_
          rintro e w3 hub
          have hk3 := hub.1
          have hbt3 := hk3.some HBT3.out (by simp)
          have hbe3 := hk3.some HBE3.out (by simp)
          have t3 := cell_of_block hbt3 0
          have t3' := free_of_block hbt3 0
          have e3 := cell_of_block hbe3 0
          have e3' := free_of_block hbe3 0
          have tl3 := lt_of_some hbt3
          have el3 := lt_of_some hbe3
          simp at t3 e3
          have HBT4 := Lib.hid hbt3
          have HBE4 := Lib.hid hbe3
          have HK3 := Lib.hid hk3
          clear hbt3 hbe3 hk3
          cases hun : unbound x (en.map (·.1)) with
          | some p =>
            rw [hun] at hub
            obtain ⟨_, b, rfl, hbs, hbo⟩ := hub
            have HRR := Lib.hid (show r = ([], ⟨4, p.1, p.2, 0, 0⟩, []) by
              have h := HR.out
              simp only [inferP, HX.out, if_neg hf1, HALL.out, hun] at h
              exact (Option.some.inj h).symm)
            have HBO := Lib.hid hbo
            clear hun hbo
            go_wp2_with fail
            all_goals
              simp [bodyPostD, Leaves, results, Tryz.results23, go_sem, t3, e3]
              rw [HRR.out]
              refine watch_fin HST.out HKP.out (HKr.out.trans0 HK3.out) ?_ ⟨_, HBT4.out⟩ ⟨_, HBE4.out⟩ (.inr (.inr (.inr ⟨b, p.1, p.2, rfl, HBO.out, rfl⟩)))
              repeat (first | exact Keeps.refl _ _ | refine Keeps.drew ?_ | refine Keeps.alloc ?_ _ | refine Keeps.setCell ?_ (Or.inl (by simp)) _)
          | none =>
            rw [hun] at hub
            obtain ⟨_, rfl⟩ := hub
            have HUN := Lib.hid hun
            have hec3 := HK3.out.some HEC.out (by simp)
            have c3 := cell_of_block hec3 0
            have cl3 := lt_of_some hec3
            simp at c3
            have HEC3 := Lib.hid hec3
            clear hun hec3
            have hft : ((fuel.toNat : Nat) : Int) = fuel := by omega
            have hka : Keeps [] w3 (w3.alloc (.cells #[.pointer (some ⟨w1.heap.size, 0, none⟩), .int .i64 fuel, .nilFunc] 130)) := (Keeps.refl [] w3).alloc _
            have hKW3 := (HKr.out.trans0 HK3.out).trans0 hka
            have hsz3 := HK3.out.size
            have hmw := (HW.out x HX.out).mw
            have R : Rig a B ((w.alloc (.cells #[.string ⟨#[]⟩] 9)).alloc (.cells #[.nilIface] 61)).heap.size w1.heap.size w3.heap.size w1.heap.size Mw wst :=
              ⟨by rw [hlow]; omega, Nat.le_of_eq hlow.symm, ⟨by omega, .inr (Nat.le_refl _)⟩, fun m hm => ⟨(hmw m hm).1, .inl (by have := (hmw m hm).2; simp; omega), by have := (hmw m hm).2; omega⟩, (HW.out x HX.out).wat iL w1.heap.size (by omega)⟩
            have hof := (HW.out x HX.out).of_ iL iB _ _ _ _ R
            have I : Inv a B ((w.alloc (.cells #[.string ⟨#[]⟩] 9)).alloc (.cells #[.nilIface] 61)).heap.size w1.heap.size w3.heap.size w1.heap.size fuel.toNat .nilFunc wst vb ⟨idS n0, []⟩ en (.pointer ea) (w3.alloc (.cells #[.pointer (some ⟨w1.heap.size, 0, none⟩), .int .i64 fuel, .nilFunc] 130)) := by
              refine ⟨HG.out.keeps hKW3 (by simp), ?_, by simp; omega, (HEN.out.kv HK3.out.kv0 (by simp)).kv hka.kv0 (by simp), EnvAt.keep (hka.kv0.stp _ _) (fun m hm => by cases hm) (EnvAt.keep (HK3.out.kv0.stp _ _) (fun m hm => by cases hm) HEA.out), HKP.out _ _ _ HST.out hKW3⟩
              unfold EngB
              rw [hft]
              exact block_alloc _ _
            have hexw := ExprAt.keep (fun b h1 h2 => (HK3.out.trans0 hka).block b (by omega) (by simp)) _ _ _ _ HEXr.out
            have hre : ∃ r1, ofE 400 fuel.toNat watch x en ⟨idS n0, []⟩ = some r1 ∧ r = (match r1 with
                | .error (f, l) => ([], ⟨f, 0, [], 0, 0⟩, l)
                | .ok (t, st) => (canon (t.ap st.S), ⟨0, 0, [], 0, 0⟩, st.told)) := by
              have h := HR.out
              simp only [inferP, HX.out, if_neg hf1, HALL.out, HUN.out] at h
              cases ho : ofE 400 fuel.toNat watch x en ⟨idS n0, []⟩ with
              | none => rw [ho] at h; cases h
              | some r1 =>
                rw [ho] at h
                refine ⟨r1, rfl, ?_⟩
                rcases r1 with ⟨f, l⟩ | ⟨t, st⟩
                · exact (Option.some.inj h).symm
                · exact (Option.some.inj h).symm
            obtain ⟨r1, hr1, hrr⟩ := hre
            have HCALL := Lib.hid (hof en ⟨idS n0, []⟩ r1 hr1 vb _ _ _ I hexw)
            have HRR := Lib.hid hrr
            have HR1 := Lib.hid hr1
            have hbt4 := hka.some HBT4.out (by simp)
            have hbe4 := hka.some HBE4.out (by simp)
            have HBT5 := Lib.hid hbt4
            have HBE5 := Lib.hid hbe4
            have HK5 := Lib.hid hKW3
            have hgl := Lib.hid I.gl
            have HKA3 := Lib.hid hka
            have HMW := Lib.hid hmw
            clear hft hka hmw R hof I hexw hr1 hrr hbt4 hbe4 hKW3
            go_wp2_with fail
            refine HCALL.out.mono ?_
            intro e w4 hp
            rcases r1 with ⟨fl, l⟩ | ⟨t, st⟩
            · obtain ⟨k, hk, rfl, rfl, hk0, hw⟩ := hp
              have hrr := HRR.out
              simp only at hrr
              have hsk : sentOf (k + 4) = some k := by
                rw [hrr] at hr4
                rcases hr4 with ⟨h1, h2⟩ | h3
                · match k, hk, h1, h2 with
                  | 2, _, _, _ => rfl
                  | 3, _, _, _ => rfl
                  | 4, _, _, _ => rfl
                  | 5, _, _, _ => rfl
                  | 6, _, _, _ => rfl
                  | 7, _, _, _ => rfl
                · exact absurd rfl h3
              have hk2 : k + 4 ≠ 2 := by omega
              have hk14 : K0 ([w.heap.size + 1, w1.heap.size, w1.heap.size + 1] ++ Mw) w1 w4 := ((HKX.out.k0.mono (fun m hm => List.mem_append_left _ hm)).transM ((HK3.out.trans0 HKA3.out).kv0.k0.mono (by simp))).transM (hk0.mono (fun m hm => by
                rcases List.mem_cons.1 hm with rfl | hm
                · simp
                · exact List.mem_append_right _ hm))
              have hK4 : Keeps Mw w w4 := (HKW.out.mono (by simp)).trans (hk14.keeps (Nat.le_of_eq hlow.symm)) (fun m hm => by
                rcases List.mem_append.1 hm with hm | hm
                · right; simp at hm; omega
                · exact .inl hm)
              have hnm : ∀ m, m = w.heap.size ∨ m = w.heap.size + 1 → m ∉ w1.heap.size :: Mw := fun m hm hmm => by
                rcases List.mem_cons.1 hmm with h | h
                · omega
                · have := (HMW.out m h).2; omega
              have hbt6 := hk0.block _ _ HBT5.out (hnm _ (.inl rfl)) (by simp)
              have hbe6 := hk0.block _ _ HBE5.out (hnm _ (.inr rfl)) (by simp)
              have HBT6 := Lib.hid hbt6
              have HBE6 := Lib.hid hbe6
              have HW4 := Lib.hid hw
              have HK4 := Lib.hid hK4
              refine leaves_cons (f := 54) (args := #[.pointer (some ⟨w.heap.size, 0, none⟩), .pointer (some ⟨w.heap.size + 1, 0, none⟩)]) (by simp) (by simp [go_sem]) ?_
              refine (watch2_panicking w.heap.size (w.heap.size + 1) _ _ _ _ [] _ (by omega) hbt6 hbe6).mono ?_
              rintro e u' w'' ⟨rfl, rfl, hb1, hb2, hkf⟩
              have hcell1 : w''.cell? ⟨w.heap.size, 0, none⟩ = some (.string ⟨#[]⟩) := cell_of_block hb1 0
              have hcell2 : w''.cell? ⟨w.heap.size + 1, 0, none⟩ = some (sent a k) := cell_of_block hb2 0
              simp [Leaves, settle, results, Tryz.results23, go_sem, hcell1, hcell2]
              rw [hrr]
              exact ⟨HK4.out.trans hkf (by simp), HKM.out _ _ _ _ HW4.out (by simp) hkf, _, rfl, .inr (.inl ⟨(k + 4, 0), by simp [placeOf], .inl ⟨k, hsk, rfl⟩⟩)⟩
            · obtain ⟨v, vb', rfl, hty, hst, heng, hwst⟩ := hp
              have HTY := Lib.hid hty
              have HEN4 := Lib.hid heng
              have HW4 := Lib.hid hwst
              have hk0 := hst.k0
              have HK04 := Lib.hid hk0
              obtain ⟨vt, vp, rfl⟩ : ∃ vt vp, v = .iface vt vp := by rcases hty.shape with ⟨_, rfl⟩ | ⟨_, rfl⟩ <;> exact ⟨_, _, rfl⟩
              clear hty heng hwst hst hk0
              go_wp2_with fail
              refine (namer_any w4).mono ?_
              rintro e w5 ⟨rfl, hnm, hk5⟩
              have hsz : (t.ap st.S).size ≤ 120 := of_size _ _ _ _ _ _ _ _ HR1.out
              have HSH := Lib.hid (showt_any (nameFn_namer (w4.heap.size + 1) w4.heap.size (by omega)) (t.ap st.S) [] w5 _ (hk5.kv0.ty (HTY.out.tvq (by rw [HEN4.out.len]; exact HEN4.out.few))) hnm (by simp; omega))
              have HK54 := Lib.hid hk5
              clear hnm hk5
              go_wp2_with fail
              refine HSH.out.mono ?_
              rintro e w6 ⟨rfl, _, hk6⟩
              rw [shownF_S, canon_eq]
              have hk14 : K0 ([w.heap.size + 1, w1.heap.size, w1.heap.size + 1] ++ Mw) w1 w4 := ((HKX.out.k0.mono (fun m hm => List.mem_append_left _ hm)).transM ((HK3.out.trans0 HKA3.out).kv0.k0.mono (by simp))).transM (HK04.out.mono (fun m hm => by
                rcases List.mem_cons.1 hm with rfl | hm
                · simp
                · exact List.mem_append_right _ hm))
              have hk46 := (HK54.out.kv0.mono (M' := [w4.heap.size]) (by simp)).trans hk6 (by simp)
              have hk16 := hk14.trans hk46.k0 (by simp; exact .inr hk14.size)
              have hK6 : Keeps Mw w w6 := (HKW.out.mono (by simp)).trans (hk16.keeps (Nat.le_of_eq hlow.symm)) (fun m hm => by
                rcases List.mem_append.1 hm with hm | hm
                · right; simp at hm; omega
                · exact .inl hm)
              have hnm : ∀ m, m = w.heap.size ∨ m = w.heap.size + 1 → m ∉ w1.heap.size :: Mw := fun m hm hmm => by
                rcases List.mem_cons.1 hmm with h | h
                · omega
                · have := (HMW.out m h).2; omega
              have hbt4 := HK04.out.block _ _ HBT5.out (hnm _ (.inl rfl)) (by simp)
              have hbe4 := HK04.out.block _ _ HBE5.out (hnm _ (.inr rfl)) (by simp)
              have hl4 := lt_of_some hbe4
              have hbt6 := hk46.blk hbt4 (by simp; omega) (by simp)
              have hbe6 := hk46.blk hbe4 (by simp; omega) (by simp)
              have t6 := cell_of_block hbt6 0
              have t6' := free_of_block hbt6 0
              have e6 := cell_of_block hbe6 0
              have e6' := free_of_block hbe6 0
              have tl6 := lt_of_some hbt6
              have el6 := lt_of_some hbe6
              simp at t6 e6
              have HBT6 := Lib.hid hbt6
              have HBE6 := Lib.hid hbe6
              have HK6 := Lib.hid hK6
              have HK46 := Lib.hid hk46
              have HWS := Lib.hid (((HW.out x HX.out).wat iL w1.heap.size (by omega)).keep _ _ _ HW4.out ((HK54.out.kv0.k0.trans hk6.k0 (by simp)).mono (M' := [w1.heap.size]) (by simp)))
              clear hk6 hk14 hk46 hk16 hK6 hbt4 hbe4 hbt6 hbe6 hnm
              have hrr : r = (canon (t.ap st.S), ⟨0, 0, [], 0, 0⟩, st.told) := HRR.out
              have HRR2 := Lib.hid hrr
              clear hrr
              go_wp2_with fail
              refine leaves_cons (f := 54) (args := #[.pointer (some ⟨w.heap.size, 0, none⟩), .pointer (some ⟨w.heap.size + 1, 0, none⟩)]) (by simp) (by simp [go_sem]) ?_
              refine (watch2_idle _ _ _).mono ?_
              rintro e u' w'' ⟨rfl, rfl, rfl⟩
              simp [Leaves, settle, results, Tryz.results23, go_sem, t6, e6]
              rw [HRR2.out]
              have hkf : Keeps [w.heap.size, w.heap.size + 1] w6 ((w6.setCell ⟨w.heap.size, 0, none⟩ (.string (bs (canon (t.ap st.S))))).setCell ⟨w.heap.size + 1, 0, none⟩ .nilIface) := ((Keeps.refl _ w6).setCell (.inl (by simp)) _).setCell (.inl (by simp)) _
              exact ⟨HK6.out.trans hkf (by simp), HKM.out _ _ _ _ HWS.out (by simp) hkf, _, rfl, .inl ⟨rfl, rfl⟩⟩
end Go.Proofs.YtpbplpnifjbkoabGreatDoor

/-
  Scheme.New: a fresh instance: the map of fresh variables, the closure, types.Map, by contracts.
-/
import Derived.Test.YtpbplpnifjbkoabGreatDoorEnvx
import Derived.Deep.RegionHeld3
import Derived.Deep.RegionLaw
import Derived.Deep.AppendLies
namespace Go.Proofs.YtpbplpnifjbkoabGreatDoor
open Go.RowKit
open Go.Maps (Keyed int_keyed)

theorem uPmE : Tryz.prog.underlying 320 = some (.map 3 178) := by kernel_rfl
theorem zPmE (w : World) : (zeroValue 178).run Tryz.prog w = .ok (.pointer none) w := by kernel_rfl
theorem Stp.mono [Inhabited Low] [Inhabited Bar] {M M' vb vb' : List Nat} {S S' : Sub} {w w' : World} (h : Stp M vb S w vb' S' w') (hM : ∀ m ∈ M, m ∈ M') : Stp M' vb S w vb' S' w' := ⟨h.k0.mono hM, h.ext, h.ty⟩
/-- A pointer to a block, or nil. -/
def ptrVE : Option Nat → Value
  | none => .pointer none
  | some b => .pointer (some ⟨b, 0, none⟩)
def ptrNE : Option Nat → Int
  | none => -1
  | some b => b
theorem ptrNE_inj {a b : Option Nat} (h : ptrNE a = ptrNE b) : a = b := by
  cases a <;> cases b <;> simp only [ptrNE] at h <;> first | rfl | omega | (congr 1; omega)
/-- How such an element reads. -/
def ptrElemE : Value → Option (DataW Unit × List MemPlace)
  | .pointer none => some (.lit (.int .i64 (-1)), [])
  | .pointer (some ⟨b, 0, none⟩) => some (.lit (.int .i64 b), [])
  | _ => none
theorem ptrElemE_of (b : Option Nat) : ptrElemE (ptrVE b) = some (.lit (.int .i64 (ptrNE b)), []) := by cases b <;> rfl
theorem ptrElemE_inv {v : Value} {b : Option Nat} {ps : List MemPlace} (h : ptrElemE v = some (.lit (.int .i64 (ptrNE b)), ps)) : v = ptrVE b := by
  unfold ptrElemE at h
  split at h
  · simp only [Option.some.injEq, Prod.mk.injEq, DataW.lit.injEq, Lit.int.injEq, true_and] at h
    rw [← ptrNE_inj (a := none) h.1]; rfl
  · rename_i c
    simp only [Option.some.injEq, Prod.mk.injEq, DataW.lit.injEq, Lit.int.injEq, true_and] at h
    rw [← ptrNE_inj (a := some c) h.1]; rfl
  · cases h
/-- Block b is a map of at most n entries that sends numbers to blocks as f does. -/
def PMapE (w : World) (b n : Nat) (f : Nat → Option Nat) : Prop :=
  ∃ D, w.ownsMap Tryz.prog 3 ptrElemE b n D ∧ ∀ k : Nat, D.atKey (.int .i64 k) (.lit (.int .i64 (-1))) = .lit (.int .i64 (ptrNE (f k)))
theorem PMapE.made (w : World) : PMapE (w.alloc (.map #[] 0)) w.heap.size 0 fun _ => none := ⟨_, World.ownsMap_made _ _ _ _, fun _ => rfl⟩
theorem PMapE.same {w w' : World} {b n : Nat} {f : Nat → Option Nat} (h : PMapE w b n f) (hb : w'.heap[b]? = w.heap[b]?) : PMapE w' b n f := by
  obtain ⟨D, ⟨es, clock, h1, h2⟩, h3⟩ := h
  exact ⟨D, ⟨es, clock, hb.trans h1, h2⟩, h3⟩
theorem PMapE.obj {w : World} {b n : Nat} {f : Nat → Option Nat} (h : PMapE w b n f) : ∃ es cl, w.heap[b]? = some (.map es cl) := by
  obtain ⟨D, ⟨es, clock, h1, h2⟩, h3⟩ := h
  exact ⟨es, clock, h1⟩
theorem PMapE.look {w : World} {b n : Nat} {f : Nat → Option Nat} (h : PMapE w b n f) (k : Nat) (hk : k ≤ 1000000000) :
    (Instr.lookup 320 (.map (some b)) (.int .i64 k) false).run Tryz.prog w = .ok (ptrVE (f k)) w := by
  obtain ⟨D, h1, h2⟩ := h
  obtain ⟨v, ps, hrun, hv⟩ := h1.lookup lawIntE uPmE (zPmE w) (zd := .lit (.int .i64 (-1))) (zp := []) (ptrElemE_of none) (keyIntE (n := k) (by omega) (by omega))
  rw [h2 k] at hv
  rw [ptrElemE_inv hv] at hrun
  exact hrun
theorem PMapE.store {w : World} {b n : Nat} {f : Nat → Option Nat} (h : PMapE w b n f) (hn : n < maxLen) (k : Nat) (hk : k ≤ 1000000000) (c : Nat) :
    ∃ w', (Instr.mapUpdate 320 (.map (some b)) (.int .i64 k) (.pointer (some ⟨c, 0, none⟩))).run Tryz.prog w = .ok () w' ∧ PMapE w' b (n + 1) (fun j => if j = k then some c else f j) ∧ w.grownBy w' (some b) := by
  obtain ⟨D, h1, h2⟩ := h
  obtain ⟨w', hrun, h3, h4⟩ := h1.update lawIntE uPmE hn (keyIntE (n := k) (by omega) (by omega)) (ptrElemE_of (some c))
  have hkl : WideAt.IsKeyLit (.int .i64 (k : Int)) := by simp [WideAt.IsKeyLit]
  refine ⟨w', hrun, ⟨_, h3, fun j => ?_⟩, h4⟩
  by_cases hjk : j = k
  · subst hjk; rw [Maps.atKey_put_same h1.isMap hkl]; simp
  · rw [Maps.atKey_put_other (by simp; omega), h2 j]; simp [hjk]

/-- The state of a fresh instance that is being made. -/
structure NewSt [Inhabited Low] [Inhabited Bar] (ab fb sbx fbx lbx : Nat) (tv m : Value) (all : List Nat) (vb : List Nat) (S : Sub) (mp : List (Nat × Nat)) (w : World) : Prop where
  eng : Eng ab vb S w
  sb : w.heap[sbx]? = some (.cells #[tv, m] 119)
  fr : w.heap[fbx]? = some (.cells #[.map (some fb)] 320)
  lb : w.heap[lbx]? = some (.cells #[.pointer (some ⟨ab, 0, none⟩)] 111)
  al : SetAt w all m
  nm : ∀ mb, m = .map (some mb) → mb ≠ fb
  pm : ∃ n, n ≤ mp.length ∧ PMapE w fb n fun v => (mp.lookup v).bind fun u => vb[u - 1]?
  few : mp.length ≤ S.length
  ok : ∀ v u, mp.lookup v = some u → 1 ≤ u ∧ u ≤ S.length ∧ Sub.look S u = .var u
theorem NewSt.kv [Inhabited Low] [Inhabited Bar] {ab fb sbx fbx lbx : Nat} {tv m : Value} {all vb : List Nat} {S : Sub} {mp : List (Nat × Nat)} {w w' : World} (h : NewSt ab fb sbx fbx lbx tv m all vb S mp w) (k : KV [] w w') : NewSt ab fb sbx fbx lbx tv m all vb S mp w' := by
  obtain ⟨n, hn, hp⟩ := h.pm
  obtain ⟨es, cl, ho⟩ := hp.obj
  exact ⟨h.eng.kv k (by simp), k.blk h.sb (by simp) (by simp), k.blk h.fr (by simp) (by simp), k.blk h.lb (by simp) (by simp), h.al.keep k.k0 (fun m hm => by cases hm), h.nm, ⟨n, hn, hp.same ((k.blk ho (by simp) (by simp)).trans ho.symm)⟩, h.few, h.ok⟩

theorem NewSt.fb_ne [Inhabited Low] [Inhabited Bar] {ab fb sbx fbx lbx : Nat} {tv m : Value} {all vb : List Nat} {S : Sub} {mp : List (Nat × Nat)} {w : World} (h : NewSt ab fb sbx fbx lbx tv m all vb S mp w) {k : Nat} {cs : Array Value} {T : TypeId} {z : Nat × Nat} (hk : w.heap[k]? = some (.cells cs T z)) (hT : T ≠ 113) : k ∉ [ab, fb] := by
  obtain ⟨n, hn, hp⟩ := h.pm
  obtain ⟨es, cl, ho⟩ := hp.obj
  simp only [List.mem_cons, List.not_mem_nil, or_false, not_or]
  refine ⟨ne_objE hk h.eng.cnt fun e => ?_, ne_objE hk ho (by simp)⟩
  simp only [Obj.cells.injEq] at e
  exact hT e.2.1
theorem new_ne [Inhabited Low] [Inhabited Bar] {ab fb sbx fbx lbx : Nat} {tv m : Value} {all vb : List Nat} {S : Sub} {mp : List (Nat × Nat)} {w : World} (h : NewSt ab fb sbx fbx lbx tv m all vb S mp w) : fbx ∉ [ab, fb] := h.fb_ne h.fr (by decide)
theorem new_ne2 [Inhabited Low] [Inhabited Bar] {ab fb sbx fbx lbx : Nat} {tv m : Value} {all vb : List Nat} {S : Sub} {mp : List (Nat × Nat)} {w : World} (h : NewSt ab fb sbx fbx lbx tv m all vb S mp w) : lbx ∉ [ab, fb] := h.fb_ne h.lb (by decide)
theorem new_ab [Inhabited Low] {ab fb n : Nat} {f : Nat → Option Nat} {w : World} (h : PMapE w fb n f) {c : Int} (hc : w.heap[ab]? = some (.cells #[.int .i64 c] 113)) : fb ∉ [ab] := by
  obtain ⟨es, cl, ho⟩ := h.obj
  simp only [List.mem_singleton]
  exact ne_objE ho hc (by simp)

set_option maxRecDepth 100000 in
set_option maxHeartbeats 4000000 in
theorem new1_call [Inhabited Low] [Inhabited Bar] {ab fb sbx fbx lbx : Nat} {tv m : Value} {all vb : List Nat} {S : Sub} {mp : List (Nat × Nat)} {w : World} (h : NewSt ab fb sbx fbx lbx tv m all vb S mp w) (htv : ∃ tt tp, tv = .iface tt tp)
    {b n : Nat} {nm : ByteArray} (hn : 1 ≤ n) (hvb : vb[n - 1]? = some b) (hb : w.heap[b]? = some (varO n .nilIface nm)) (hlo : lowB ≤ b) {t' : Ty} {mp' : List (Nat × Nat)} {S' : Sub} (hi : inst all (.var n) mp S = some (t', mp', S')) :
    Calls Tryz.prog 167 #[.pointer (some ⟨b, 0, none⟩), .pointer (some ⟨sbx, 0, none⟩), .pointer (some ⟨fbx, 0, none⟩), .pointer (some ⟨lbx, 0, none⟩)] w fun e w' =>
      ∃ v vb', e = .returned v ∧ TyE vb' w' t' v ∧ Stp [ab, fb] vb S w vb' S' w' ∧ NewSt ab fb sbx fbx lbx tv m all vb' S' mp' w' := by
  obtain ⟨tt, tp, rfl⟩ := htv
  obtain ⟨mm, rfl⟩ : ∃ mm, m = .map mm := by rcases h.al with ⟨rfl, _⟩ | ⟨b, n, rfl, _⟩ <;> exact ⟨_, rfl⟩
  have s0 := cell_of_block h.sb 0
  have s1 := cell_of_block h.sb 1
  simp at s0 s1
  have hnn : n ≤ 1000000000 := by
    have := (List.getElem?_eq_some_iff.1 hvb).1
    have := h.eng.len
    have := h.eng.few
    omega
  have HCALL := Lib.hid (any_any h.al hb hnn ⟨tt, tp, rfl⟩)
  have H := Lib.hid h
  have HB := Lib.hid hb
  have HI := Lib.hid hi
  clear h hb hi
  go_enter Tryz.func167, Tryz.ntmps167
  go_wp2_with fail
  refine HCALL.out.mono ?_
  rintro e w1 ⟨rfl, hk1⟩
  have H1 := Lib.hid (H.out.kv hk1.kv0)
  have HK1 := Lib.hid hk1
  have HB1 := Lib.hid (hk1.some HB.out (by simp))
  have f0 := cell_of_block H1.out.fr 0
  have l0 := cell_of_block H1.out.lb 0
  have b0 := cell_of_block HB1.out 0
  simp at f0 l0 b0
  clear hk1 s0 s1
  by_cases hna : n ∈ all
  · have hd : decide (n ∈ all) = true := by simpa using hna
    rw [hd]
    obtain ⟨k, hk, hpm⟩ := H1.out.pm
    have HPM := Lib.hid hpm
    cases hl : mp.lookup n with
    | some u =>
      obtain ⟨hu1, hu2, hu3⟩ := H1.out.ok n u hl
      have hlen := H1.out.eng.len
      obtain ⟨c, hc⟩ : ∃ c, vb[u - 1]? = some c := ⟨_, List.getElem?_eq_getElem (by omega)⟩
      have hf : (mp.lookup n).bind (fun u => vb[u - 1]?) = some c := by rw [hl]; exact hc
      have g1 := (hpm.same (w' := w1.drew) rfl).look n hnn
      have g2 := (hpm.same (w' := w1.drew.drew) rfl).look n hnn
      simp only [hf, ptrVE] at g1 g2
      have hi := HI.out
      simp only [inst, if_pos hna, hl] at hi
      cases hi
      have HC := Lib.hid hc
      have HU3 := Lib.hid hu3
      clear hpm hl hc hf hu3
      go_wp2_with fail
      go_region
      all_goals
        go_wp2_with fail
        go_region
        all_goals
          go_wp2_with fail
          go_ret
          have hkd : KV [] w w1.drew.drew := HK1.out.drew.drew.kv0
          have hty := H1.out.eng.var hu1 HC.out
          rw [show (Ty.var u).ap S = .var u from HU3.out] at hty
          exact ⟨_, vb, rfl, (Keeps.refl [] w1).drew.drew.kv0.te hty, (hkd.mono (by simp)).stp vb S, H.out.kv hkd⟩
    | none =>
      have hf : (mp.lookup n).bind (fun u => vb[u - 1]?) = none := by rw [hl]; rfl
      have g1 := (hpm.same (w' := w1.drew) rfl).look n hnn
      simp only [hf, ptrVE] at g1
      have hi := HI.out
      simp only [inst, if_pos hna, hl] at hi
      have HI2 := Lib.hid hi
      have HL := Lib.hid hl
      clear hpm hl hf hi
      have hfr : S.length < 100000 := by
        have h := HI2.out
        unfold fresh at h
        by_cases hf : S.length < 100000
        · exact hf
        · rw [if_neg hf] at h; simp at h
      have hi := HI2.out
      simp only [fresh, if_pos hfr, Option.bind_some] at hi
      cases hi
      have HX := Lib.hid (fun (W : World) (hW : K0 [ab, fb] w1 W) => (⟨(cell_of_block (hW.block _ _ H1.out.fr (new_ne H1.out) (by simp)) 0).trans (by simp), (cell_of_block (hW.block _ _ H1.out.lb (new_ne2 H1.out) (by simp)) 0).trans (by simp), by
        obtain ⟨u', hu'⟩ := hW.var _ _ _ _ HB1.out
        exact (cell_of_block hu' 0).trans (by simp)⟩ : W.cell? ⟨fbx, 0, none⟩ = some (.map (some fb)) ∧ W.cell? ⟨lbx, 0, none⟩ = some (.pointer (some ⟨ab, 0, none⟩)) ∧ W.cell? ⟨b, 0, none⟩ = some (.int .i64 n)))
      have HD := Lib.hid ((Keeps.refl [] w1).drew.drew.kv0)
      obtain ⟨es, cl, ho⟩ := HPM.out.obj
      have HO := Lib.hid ho
      have hnab : fb ∉ [ab] := new_ab HPM.out H1.out.eng.cnt
      have HNAB := Lib.hid hnab
      have hfw := H1.out.few
      have HPMK := Lib.hid (fun (W : World) (hW : K0 [ab] w1.drew.drew W) => HPM.out.same ((hW.block fb _ HO.out HNAB.out (by simp)).trans HO.out.symm))
      have HPMV := Lib.hid (fun (W : World) (hW : K0 [ab] w1.drew.drew W) (W2 : World) (hg : W.grownBy W2 (some fb)) => map_kv ((Keeps.refl [fb] W).grown hg (fun k e => .inl (by simp at e; simp [e]))) (fun o hmo cs T z e => by rw [hW.block fb _ HO.out HNAB.out (by simp)] at hmo; cases hmo; cases e))
      have HPMG := Lib.hid (fun (W : World) (hW : K0 [ab] w1.drew.drew W) (W2 : World) (hg : W.grownBy W2 (some fb)) => (map_kv ((Keeps.refl [fb] W).grown hg (fun k e => .inl (by simp at e; simp [e]))) (fun o hmo cs T z e => by rw [hW.block fb _ HO.out HNAB.out (by simp)] at hmo; cases hmo; cases e)).k0)
      clear ho hnab
      go_wp2_with fail
      go_region
      all_goals
        go_wp2_with fail
        go_region_held3 (fun W => (W.cell? ⟨fbx, 0, none⟩ = some (.map (some fb)) ∧ W.cell? ⟨lbx, 0, none⟩ = some (.pointer (some ⟨ab, 0, none⟩)) ∧ W.cell? ⟨b, 0, none⟩ = some (.int .i64 n)) ∧ K0 [ab, fb] w1 W)
          (first | exact ⟨HX.out _ (HD.out.k0.mono (by simp)), HD.out.k0.mono (by simp)⟩ | exact ⟨HX.out _ hk2', hk2'⟩ | exact ⟨HX.out _ hk3', hk3'⟩)
          (first | (go_at_call 139; refine (vars_new (H1.out.kv HD.out).eng hfr).mono ?_; rintro e Wb ⟨rfl, hst2, he2, hty2⟩; have HST2 := Lib.hid hst2; have HE2 := Lib.hid he2; have HT2 := Lib.hid hty2; have hk2' : K0 [ab, fb] w1 Wb := (HD.out.k0.mono (by simp)).transM (hst2.k0.mono (by simp)); obtain ⟨W2, hrun, hpm2, hgr2⟩ := (HPMK.out Wb hst2.k0).store (by unfold maxLen; omega) n hnn w1.heap.size; have HPM2 := Lib.hid hpm2; have HGR2 := Lib.hid hgr2; have hk3' : K0 [ab, fb] w1 W2 := hk2'.transM ((HPMG.out Wb hst2.k0 W2 hgr2).mono (by simp)); clear hst2 he2 hty2 hpm2 hgr2))
        all_goals
          have hff : (fun j => if j = n then some w1.heap.size else (mp.lookup j).bind fun u => vb[u - 1]?) = fun v => (((n, S.length + 1) :: mp).lookup v).bind fun u => (vb ++ [w1.heap.size])[u - 1]? := funext fun j => by
            rw [List.lookup_cons]
            by_cases hj : j = n
            · subst hj; simp [H1.out.eng.len]
            · rw [beq_false_of_ne hj, if_neg hj]
              cases hl : mp.lookup j with
              | none => rfl
              | some u =>
                obtain ⟨h1, h2, _⟩ := H1.out.ok j u hl
                have h3 := H1.out.eng.len
                simp only [Option.bind_some]
                rw [List.getElem?_append_left (by omega)]
          have hpm3 := HPM2.out
          rw [hff] at hpm3
          have HPM3 := Lib.hid hpm3
          have g2 := (hpm3.same (w' := W2.drew) rfl).look n hnn
          have hfn : (((n, S.length + 1) :: mp).lookup n).bind (fun u => (vb ++ [w1.heap.size])[u - 1]?) = some w1.heap.size := by simp [H1.out.eng.len]
          rw [hfn] at g2
          simp only [ptrVE] at g2
          obtain ⟨x0, x1, x2⟩ := HX.out _ hk3'
          have hkv2 : KV [fb] Wb W2 := HPMV.out Wb HST2.out.k0 W2 HGR2.out
          have HKV2 := Lib.hid (hkv2.trans0 (Keeps.refl [] W2).drew.kv0)
          have HK3 := Lib.hid (hk3'.transM ((Keeps.refl [] W2).drew.kv0.k0.mono (by simp)))
          clear hff hpm3 hfn hkv2 hk2' hk3'
          go_wp2_with fail
          go_region
          all_goals
            go_wp2_with fail
            go_ret
            have hst : Stp [ab, fb] vb S w (vb ++ [w1.heap.size]) (S ++ [.var (S.length + 1)]) W2.drew :=
              (((HK1.out.kv0.trans0 HD.out).mono (by simp)).stp vb S).trans ((HST2.out.mono (by simp)).trans ((HKV2.out.mono (by simp)).stp _ _))
            refine ⟨_, _, rfl, HKV2.out.te HT2.out, hst, ?_⟩
            obtain ⟨es2, cl2, ho2⟩ := HPM3.out.obj
            refine ⟨HE2.out.kv HKV2.out (by simpa using fun e => HNAB.out (by simp [e])), HK3.out.block _ _ H1.out.sb (H1.out.fb_ne H1.out.sb (by decide)) (by simp), HK3.out.block _ _ H1.out.fr (new_ne H1.out) (by simp), HK3.out.block _ _ H1.out.lb (new_ne2 H1.out) (by simp), ?_, H1.out.nm, ⟨k + 1, by simp; omega, HPM3.out.same rfl⟩, by simp; exact H1.out.few, fun v u hvu => ?_⟩
            · rcases H1.out.al with h | ⟨mb, mn, e, h⟩
              · exact .inl h
              · obtain ⟨es', cl', ho'⟩ := h.obj
                refine .inr ⟨mb, mn, e, h.same ((HK3.out.block _ _ ho' ?_ (by simp)).trans ho'.symm)⟩
                simp only [List.mem_cons, List.not_mem_nil, or_false, not_or]
                exact ⟨ne_objE ho' H1.out.eng.cnt (by simp), H1.out.nm mb e⟩
            · rw [List.lookup_cons] at hvu
              by_cases hv : v = n
              · subst hv
                simp only [BEq.rfl, Option.some.injEq] at hvu
                subst hvu
                exact ⟨by omega, by simp, by simp [Sub.look]⟩
              · rw [beq_false_of_ne hv] at hvu
                obtain ⟨h1, h2, h3⟩ := H1.out.ok v u hvu
                refine ⟨h1, by simp; omega, ?_⟩
                rw [← h3]
                unfold Sub.look
                rw [List.getD_eq_getElem?_getD, List.getD_eq_getElem?_getD, List.getElem?_append_left (by omega)]
  · have hd : decide (n ∈ all) = false := by simpa using hna
    rw [hd]
    have hi := HI.out
    simp only [inst, if_neg hna] at hi
    cases hi
    go_wp2_with fail
    go_ret
    exact ⟨_, vb, rfl, ⟨b, nm, hn, hvb, .root rfl HB1.out hlo, HB1.out⟩, (HK1.out.kv0.mono (by simp)).stp vb S, H1.out⟩
end Go.Proofs.YtpbplpnifjbkoabGreatDoor

namespace Go.Proofs.YtpbplpnifjbkoabGreatDoor
open Go.RowKit

/-- Blocks barred besides. -/
abbrev barX (BI : Inhabited Bar) (X : List Nat) : Inhabited Bar := ⟨⟨X ++ @barB BI⟩⟩
theorem mem_barX {BI : Inhabited Bar} {X : List Nat} {x : Nat} : x ∈ @barB (barX BI X) ↔ x ∈ X ∨ x ∈ @barB BI := List.mem_append
theorem ConE.add {BI : Inhabited Bar} {X : List Nat} {w : World} {c : Nat} {k : Bytes} {sv : Value} (h : @ConE BI w c k sv) (hX : ∀ x ∈ X, w.heap.size ≤ x) : @ConE (barX BI X) w c k sv :=
  ⟨fun hm => (mem_barX.1 hm).elim (fun hx => by have := hX _ hx; have := lt_of_some h.2; omega) h.1, h.2⟩
theorem ConE.less {BI : Inhabited Bar} {X : List Nat} {w : World} {c : Nat} {k : Bytes} {sv : Value} (h : @ConE (barX BI X) w c k sv) : @ConE BI w c k sv := ⟨fun hm => h.1 (mem_barX.2 (.inr hm)), h.2⟩
theorem RowE.add {BI : Inhabited Bar} {X : List Nat} {w : World} {sv : Value} {vs : List Value} (h : @RowE BI w sv vs) (hX : ∀ x ∈ X, w.heap.size ≤ x) : @RowE (barX BI X) w sv vs := by
  obtain ⟨g, cap, cs, h1, h2, h3, h4⟩ := h
  exact ⟨g, cap, cs, h1, fun hm => (mem_barX.1 hm).elim (fun hx => by have := hX _ hx; have := lt_of_some h3; omega) h2, h3, h4⟩
theorem RowE.less {BI : Inhabited Bar} {X : List Nat} {w : World} {sv : Value} {vs : List Value} (h : @RowE (barX BI X) w sv vs) : @RowE BI w sv vs := by
  obtain ⟨g, cap, cs, h1, h2, h3, h4⟩ := h
  exact ⟨g, cap, cs, h1, fun hm => h2 (mem_barX.2 (.inr hm)), h3, h4⟩
theorem TyE.add [Inhabited Low] {BI : Inhabited Bar} {X : List Nat} {vb : List Nat} {w : World} (hX : ∀ x ∈ X, w.heap.size ≤ x) : ∀ {t : Ty} {v : Value}, @TyE _ BI vb w t v → @TyE _ (barX BI X) vb w t v
  | .var _, _, h => h
  | .int, _, ⟨c, f, h⟩ => ⟨c, f, h.add hX⟩
  | .bool, _, ⟨c, f, h⟩ => ⟨c, f, h.add hX⟩
  | .list _, _, ⟨c, sv, va, f, h1, h2, h3⟩ => ⟨c, sv, va, f, h1.add hX, h2.add hX, TyE.add hX h3⟩
  | .pair _ _, _, ⟨c, sv, va, vc, f, h1, h2, h3, h4⟩ => ⟨c, sv, va, vc, f, h1.add hX, h2.add hX, TyE.add hX h3, TyE.add hX h4⟩
  | .arr _ _, _, ⟨c, sv, va, vc, f, h1, h2, h3, h4⟩ => ⟨c, sv, va, vc, f, h1.add hX, h2.add hX, TyE.add hX h3, TyE.add hX h4⟩
theorem TyE.less [Inhabited Low] {BI : Inhabited Bar} {X : List Nat} {vb : List Nat} {w : World} : ∀ {t : Ty} {v : Value}, @TyE _ (barX BI X) vb w t v → @TyE _ BI vb w t v
  | .var _, _, h => h
  | .int, _, ⟨c, f, h⟩ => ⟨c, f, h.less⟩
  | .bool, _, ⟨c, f, h⟩ => ⟨c, f, h.less⟩
  | .list _, _, ⟨c, sv, va, f, h1, h2, h3⟩ => ⟨c, sv, va, f, h1.less, h2.less, TyE.less h3⟩
  | .pair _ _, _, ⟨c, sv, va, vc, f, h1, h2, h3, h4⟩ => ⟨c, sv, va, vc, f, h1.less, h2.less, TyE.less h3, TyE.less h4⟩
  | .arr _ _, _, ⟨c, sv, va, vc, f, h1, h2, h3, h4⟩ => ⟨c, sv, va, vc, f, h1.less, h2.less, TyE.less h3, TyE.less h4⟩
/-- Chains behind a change of blocks that are no variables. -/
theorem Fnd.still [Inhabited Low] {Y : List Nat} {w w' : World} (k : Keeps Y w w') (hY : ∀ y ∈ Y, ∀ N u nm, w.heap[y]? ≠ some (varO N u nm)) {v r : Value} (h : Fnd w v r) : Fnd w' v r := by
  induction h with
  | root hv hb hl => exact .root hv (k.some hb fun hm => hY _ hm _ _ _ hb) hl
  | con hv => exact .con hv
  | step hv hb hu hl _ ih => exact .step hv (k.some hb fun hm => hY _ hm _ _ _ hb) hu hl ih
theorem TyE.still [Inhabited Low] [Inhabited Bar] {Y : List Nat} {vb : List Nat} {w w' : World} (k : Keeps Y w w') (hY : ∀ y ∈ Y, ∀ N u nm, w.heap[y]? ≠ some (varO N u nm)) (hB : ∀ y ∈ Y, y ∈ barB ∨ w.heap.size ≤ y) : ∀ {t : Ty} {v : Value}, TyE vb w t v → TyE vb w' t v := by
  have hc : ∀ {c : Nat} {kk : Bytes} {sv : Value}, ConE w c kk sv → ConE w' c kk sv := fun h => ⟨h.1, k.some h.2 fun hm => (hB _ hm).elim h.1 fun hge => by have := lt_of_some h.2; omega⟩
  have hr : ∀ {sv : Value} {vs : List Value}, RowE w sv vs → RowE w' sv vs := fun h => by
    obtain ⟨g, cap, cs, h1, h2, h3, h4⟩ := h
    exact ⟨g, cap, cs, h1, h2, k.some h3 fun hm => (hB _ hm).elim h2 fun hge => by have := lt_of_some h3; omega, h4⟩
  intro t
  induction t with
  | var n => rintro v ⟨b, nm, h1, h2, f, h⟩; exact ⟨b, nm, h1, h2, f.still k hY, k.some h fun hm => hY _ hm _ _ _ h⟩
  | int => rintro v ⟨c, f, h⟩; exact ⟨c, f.still k hY, hc h⟩
  | bool => rintro v ⟨c, f, h⟩; exact ⟨c, f.still k hY, hc h⟩
  | list a ih => rintro v ⟨c, sv, va, f, h1, h2, h3⟩; exact ⟨c, sv, va, f.still k hY, hc h1, hr h2, ih h3⟩
  | pair a b iha ihb => rintro v ⟨c, sv, va, vc, f, h1, h2, h3, h4⟩; exact ⟨c, sv, va, vc, f.still k hY, hc h1, hr h2, iha h3, ihb h4⟩
  | arr a b iha ihb => rintro v ⟨c, sv, va, vc, f, h1, h2, h3, h4⟩; exact ⟨c, sv, va, vc, f.still k hY, hc h1, hr h2, iha h3, ihb h4⟩
/-- A change of blocks that are new since the beginning. -/
theorem K0.tail [Inhabited Low] {M Y : List Nat} {a w w' : World} (h : K0 M a w) (k : Keeps Y w w') (hY : ∀ y ∈ Y, a.heap.size ≤ y) : K0 M a w' := by
  have hb : ∀ i, i < a.heap.size → w'.heap[i]? = w.heap[i]? := fun i hi => k.block i (Nat.lt_of_lt_of_le hi h.size) fun hm => by have := hY i hm; omega
  exact ⟨k.os.trans h.os, k.tape.trans h.tape, k.output.trans h.output, Nat.le_trans h.size k.size, fun i hi hs hn => (hb i hs).trans (h.low i hi hs hn),
    fun i o ho hn hv => (hb i (lt_of_some ho)).trans (h.block i o ho hn hv), fun i cs T z ho hT => (hb i (lt_of_some ho)).trans (h.con i cs T z ho hT),
    fun i N u nm ho => by obtain ⟨u', h1⟩ := h.var i N u nm ho; exact ⟨u', (hb i (lt_of_some ho)).trans h1⟩⟩
/-- More fresh ones: a type that stands is the same. -/
theorem TyE.ap_more [Inhabited Low] [Inhabited Bar] {vb : List Nat} {w : World} {S m : Sub} (hl : vb.length = S.length) : ∀ {t : Ty} {v : Value}, TyE vb w t v → t.ap (S ++ m) = t.ap S
  | .var n, _, ⟨b, nm, h1, h2, _, _⟩ => by
    have h3 := (List.getElem?_eq_some_iff.1 h2).1
    simp only [Ty.ap]
    unfold Sub.look
    rw [List.getD_eq_getElem?_getD, List.getD_eq_getElem?_getD, List.getElem?_append_left (by omega)]
  | .int, _, _ => rfl
  | .bool, _, _ => rfl
  | .list a, _, ⟨_, _, _, _, _, _, h⟩ => by simp only [Ty.ap]; rw [TyE.ap_more hl h]
  | .pair a b, _, ⟨_, _, _, _, _, _, _, h, h'⟩ => by simp only [Ty.ap]; rw [TyE.ap_more hl h, TyE.ap_more hl h']
  | .arr a b, _, ⟨_, _, _, _, _, _, _, h, h'⟩ => by simp only [Ty.ap]; rw [TyE.ap_more hl h, TyE.ap_more hl h']
theorem inst_more (all : List Nat) (t : Ty) : ∀ (mp : List (Nat × Nat)) (S : Sub) (t' : Ty) (mp' : List (Nat × Nat)) (S' : Sub), inst all t mp S = some (t', mp', S') → ∃ m, S' = S ++ m := by
  induction t with
  | var n =>
    intro mp S t' mp' S' h
    simp only [inst] at h
    split at h
    · cases hl : mp.lookup n with
      | some u => rw [hl] at h; cases h; exact ⟨[], by simp⟩
      | none =>
        rw [hl] at h
        simp only [fresh] at h
        split at h
        · cases h; exact ⟨_, rfl⟩
        · cases h
    · cases h; exact ⟨[], by simp⟩
  | int => intro mp S t' mp' S' h; cases h; exact ⟨[], by simp⟩
  | bool => intro mp S t' mp' S' h; cases h; exact ⟨[], by simp⟩
  | list a ih =>
    intro mp S t' mp' S' h
    simp only [inst] at h
    obtain ⟨⟨q, mq, Sq⟩, hq, h2⟩ := Option.bind_eq_some_iff.1 h
    cases h2
    exact ih _ _ _ _ _ hq
  | pair a b iha ihb =>
    intro mp S t' mp' S' h
    simp only [inst] at h
    obtain ⟨⟨q, mq, Sq⟩, hq, h2⟩ := Option.bind_eq_some_iff.1 h
    obtain ⟨⟨p, mr, Sr⟩, hp, h3⟩ := Option.bind_eq_some_iff.1 h2
    cases h3
    obtain ⟨m1, rfl⟩ := iha _ _ _ _ _ hq
    obtain ⟨m2, rfl⟩ := ihb _ _ _ _ _ hp
    exact ⟨m1 ++ m2, by simp⟩
  | arr a b iha ihb =>
    intro mp S t' mp' S' h
    simp only [inst] at h
    obtain ⟨⟨q, mq, Sq⟩, hq, h2⟩ := Option.bind_eq_some_iff.1 h
    obtain ⟨⟨p, mr, Sr⟩, hp, h3⟩ := Option.bind_eq_some_iff.1 h2
    cases h3
    obtain ⟨m1, rfl⟩ := iha _ _ _ _ _ hq
    obtain ⟨m2, rfl⟩ := ihb _ _ _ _ _ hp
    exact ⟨m1 ++ m2, by simp⟩
/-- The parts in turn. -/
def instL (all : List Nat) : List Ty → List (Nat × Nat) → Sub → Option (List Ty × List (Nat × Nat) × Sub)
  | [], mp, S => some ([], mp, S)
  | t :: r, mp, S => (inst all t mp S).bind fun p => (instL all r p.2.1 p.2.2).bind fun q => some (p.1 :: q.1, q.2)
/-- A kind with these parts. -/
def kindOf : Ty → List Ty → Ty
  | .list _, [a] => .list a
  | .pair _ _, [a, b] => .pair a b
  | .arr _ _, [a, b] => .arr a b
  | t, _ => t
theorem inst_kids (all : List Nat) {t : Ty} (h : isVarT t = false) (mp : List (Nat × Nat)) (S : Sub) : inst all t mp S = (instL all (kidsT t) mp S).bind fun p => some (kindOf t p.1, p.2) := by
  cases t with
  | var n => simp [isVarT] at h
  | int => rfl
  | bool => rfl
  | list a => simp only [inst, kidsT, instL]; cases inst all a mp S <;> rfl
  | pair a b =>
    simp only [inst, kidsT, instL]
    cases inst all a mp S with
    | none => rfl
    | some p => simp only [Option.bind_some]; cases inst all b p.2.1 p.2.2 <;> rfl
  | arr a b =>
    simp only [inst, kidsT, instL]
    cases inst all a mp S with
    | none => rfl
    | some p => simp only [Option.bind_some]; cases inst all b p.2.1 p.2.2 <;> rfl
end Go.Proofs.YtpbplpnifjbkoabGreatDoor

namespace Go.Proofs.YtpbplpnifjbkoabGreatDoor
open Go.RowKit

theorem TyE.self_ap [Inhabited Low] [Inhabited Bar] {ab : Nat} {vb : List Nat} {S : Sub} {w : World} (hE : Eng ab vb S w) : ∀ {t : Ty} {v : Value}, TyE vb w t v → t.ap S = t
  | .var n, v, ⟨b, nm, h1, h2, hf, hb⟩ => by
    have h := (hE.var h1 h2).res hf.self
    cases hc : (Ty.var n).ap S with
    | var k =>
      rw [hc] at h
      obtain ⟨b', nm', h3, h4, h5, _, h6⟩ := h
      cases h5
      rw [hb] at h6
      simp only [Option.some.injEq, varO, Obj.cells.injEq, Array.mk.injEq, List.cons.injEq, Value.int.injEq, and_true, true_and] at h6
      have := h6.1
      congr 1
      omega
    | int => rw [hc] at h; obtain ⟨c, h, _⟩ := h; cases h
    | bool => rw [hc] at h; obtain ⟨c, h, _⟩ := h; cases h
    | list a => rw [hc] at h; obtain ⟨c, _, _, h, _⟩ := h; cases h
    | pair a b => rw [hc] at h; obtain ⟨c, _, _, _, h, _⟩ := h; cases h
    | arr a b => rw [hc] at h; obtain ⟨c, _, _, _, h, _⟩ := h; cases h
  | .int, _, _ => rfl
  | .bool, _, _ => rfl
  | .list a, _, ⟨_, _, _, _, _, _, h⟩ => by simp only [Ty.ap]; rw [TyE.self_ap hE h]
  | .pair a b, _, ⟨_, _, _, _, _, _, _, h, h'⟩ => by simp only [Ty.ap]; rw [TyE.self_ap hE h, TyE.self_ap hE h']
  | .arr a b, _, ⟨_, _, _, _, _, _, _, h, h'⟩ => by simp only [Ty.ap]; rw [TyE.self_ap hE h, TyE.self_ap hE h']

/-- Blocks of kinds and rows. -/
def Fill (Y : List Nat) (w : World) : Prop := ∀ y ∈ Y, ∃ cs T z, w.heap[y]? = some (.cells cs T z) ∧ (T = 187 ∨ T = 116)
theorem Fill.not {Y : List Nat} {w : World} (h : Fill Y w) {b : Nat} {o : Obj} (hb : w.heap[b]? = some o) (ho : ∀ cs T z, o = .cells cs T z → T ≠ 187 ∧ T ≠ 116) : b ∉ Y := by
  intro hm
  obtain ⟨cs, T, z, h1, h2⟩ := h b hm
  rw [hb] at h1
  cases h1
  have := ho _ _ _ rfl
  rcases h2 with rfl | rfl
  · exact this.1 rfl
  · exact this.2 rfl
theorem Fill.var {Y : List Nat} {w : World} (h : Fill Y w) : ∀ y ∈ Y, ∀ N u nm, w.heap[y]? ≠ some (varO N u nm) := fun y hy N u nm e => h.not e (by intro cs T z e; simp only [varO, Obj.cells.injEq] at e; obtain ⟨_, rfl, _⟩ := e; decide) hy
/-- A change of blocks that are barred, or new; more are barred behind it. -/
theorem TyE.turn [Inhabited Low] {BI : Inhabited Bar} {X Y vb : List Nat} {w w' : World} (k : Keeps Y w w') (hF : Fill Y w) (hY : ∀ y ∈ Y, y ∈ @barB BI ∨ w.heap.size ≤ y) (hX : ∀ x ∈ X, w.heap.size ≤ x) {t : Ty} {v : Value} (h : @TyE _ BI vb w t v) : @TyE _ (barX BI X) vb w' t v :=
  @TyE.still _ (barX BI X) Y vb w w' k hF.var (fun y hy => (hY y hy).imp (fun h => mem_barX.2 (.inr h)) id) t v (h.add hX)
theorem NewSt.turn [Inhabited Low] {BI : Inhabited Bar} {X Y : List Nat} {ab fb sbx fbx lbx : Nat} {tv m : Value} {all vb : List Nat} {S : Sub} {mp : List (Nat × Nat)} {w w' : World} (h : @NewSt _ BI ab fb sbx fbx lbx tv m all vb S mp w)
    (k : Keeps Y w w') (hF : Fill Y w) (hY : ∀ y ∈ Y, y ∈ @barB BI ∨ w.heap.size ≤ y) (hX : ∀ x ∈ X, w.heap.size ≤ x ∧ x < w'.heap.size) : @NewSt _ (barX BI X) ab fb sbx fbx lbx tv m all vb S mp w' := by
  obtain ⟨⟨e1, e2, e3, e4, e5, e6, e7⟩, sb, fr, lb, al, nm, ⟨n, hn, hp⟩, few, ok⟩ := h
  obtain ⟨es, cl, ho⟩ := hp.obj
  have hE : @Eng _ (barX BI X) ab vb S w' := @Eng.mk _ (barX BI X) _ _ _ _ e1 e2 (Nat.le_trans e3 k.size) (fun x hx => (mem_barX.1 hx).elim (fun h => (hX x h).2) (fun h => Nat.lt_of_lt_of_le (e4 x h) k.size))
      (fun i b t hb ht => (e5 i b t hb ht).turn k hF hY fun x hx => (hX x hx).1) e6 (k.some e7 (hF.not e7 (by intro cs T z e; cases e; decide)))
  refine @NewSt.mk _ (barX BI X) _ _ _ _ _ _ _ _ _ _ _ _ hE (k.some sb (hF.not sb (by intro cs T z e; cases e; decide))) (k.some fr (hF.not fr (by intro cs T z e; cases e; decide))) (k.some lb (hF.not lb (by intro cs T z e; cases e; decide)))
    ?_ nm ⟨n, hn, hp.same ((k.some ho (hF.not ho (by intro cs T z e; cases e))).trans ho.symm)⟩ few ok
  rcases al with h | ⟨mb, mn, e, h⟩
  · exact .inl h
  · obtain ⟨es', cl', ho'⟩ := h.obj
    exact .inr ⟨mb, mn, e, h.same ((k.some ho' (hF.not ho' (by intro cs T z e; cases e))).trans ho'.symm)⟩
theorem NewSt.less [Inhabited Low] {BI : Inhabited Bar} {X : List Nat} {ab fb sbx fbx lbx : Nat} {tv m : Value} {all vb : List Nat} {S : Sub} {mp : List (Nat × Nat)} {w : World} (h : @NewSt _ (barX BI X) ab fb sbx fbx lbx tv m all vb S mp w) : @NewSt _ BI ab fb sbx fbx lbx tv m all vb S mp w := by
  obtain ⟨⟨e1, e2, e3, e4, e5, e6, e7⟩, sb, fr, lb, al, nm, pm, few, ok⟩ := h
  exact @NewSt.mk _ BI _ _ _ _ _ _ _ _ _ _ _ _ (@Eng.mk _ BI _ _ _ _ e1 e2 e3 (fun x hx => e4 x (mem_barX.2 (.inr hx))) (fun i b t hb ht => (e5 i b t hb ht).less) e6 e7) sb fr lb al nm pm few ok

/-- While a kind is filled. -/
structure MapSt [Inhabited Low] (BI : Inhabited Bar) (ab fb sbx fbx lbx : Nat) (tv m : Value) (all : List Nat) (kk : Bytes) (vb0 : List Nat) (S0 : Sub) (w0 : World) (c : Nat) (vb : List Nat) (S : Sub) (mp : List (Nat × Nat)) (ts : List Ty) (vs : List Value) (sl : Value) (X : List Nat) (w : World) : Prop where
  lo : w0.heap.size ≤ c
  cx : c ∈ X
  gx : ∀ k, sl.ownBlock = some k → k ∈ X
  xl : ∀ x ∈ X, w0.heap.size ≤ x
  st : @NewSt _ (barX BI X) ab fb sbx fbx lbx tv m all vb S mp w
  ts_ : ∀ (j : Nat) t v, ts[j]? = some t → vs[j]? = some v → @TyE _ (barX BI X) vb w t v
  ty : ∀ (t : Ty) v, @TyE _ BI vb0 w0 (t.ap S0) v → @TyE _ (barX BI X) vb w (t.ap S) v
  ext : ∃ m, vb = vb0 ++ m
  len : ts.length = vs.length
  con : w.heap[c]? = some (conO kk sl)
  row : w.ownsRow (c + 1) 116 1 sl vs.length vs
  k0 : K0 [ab, fb] w0 w
  more : ∃ m, S = S0 ++ m
  nil : vs = [] → sl = .slice none 0 0
theorem MapSt.call [Inhabited Low] {BI : Inhabited Bar} {ab fb sbx fbx lbx : Nat} {tv m : Value} {all : List Nat} {kk : Bytes} {vb0 : List Nat} {S0 : Sub} {w0 : World} {c : Nat} {vb vb' : List Nat} {S S' : Sub} {mp mp' : List (Nat × Nat)} {ts : List Ty} {vs : List Value} {sl : Value} {X : List Nat} {w w' : World}
    (h : MapSt BI ab fb sbx fbx lbx tv m all kk vb0 S0 w0 c vb S mp ts vs sl X w) (hs : @Stp _ (barX BI X) [ab, fb] vb S w vb' S' w') (hn : @NewSt _ (barX BI X) ab fb sbx fbx lbx tv m all vb' S' mp' w') (hm : ∃ m, S' = S ++ m) :
    MapSt BI ab fb sbx fbx lbx tv m all kk vb0 S0 w0 c vb' S' mp' ts vs sl X w' := by
  obtain ⟨h1, h2, h3, h4, h5, h6, h7, h8, h9, h10, h11, h12, h13, h14⟩ := h
  obtain ⟨s1, s2, s3⟩ := hs
  obtain ⟨m1, rfl⟩ := hm
  have hE : @Eng _ (barX BI X) ab vb S w := by obtain ⟨e, _⟩ := h5; exact e
  have hl : vb.length = S.length := by obtain ⟨e, _⟩ := hE; exact e
  refine ⟨h1, h2, h3, h4, hn, fun j t v e1 e2 => ?_, fun t v e => s3 t v (h7 t v e), ?_, h9, s1.con _ _ _ _ h10 (.inl rfl), ?_, h12.transM s1, ?_, h14⟩
  · have h := h6 j t v e1 e2
    have hap := @TyE.self_ap _ (barX BI X) ab vb S w hE t v h
    have hmo := @TyE.ap_more _ (barX BI X) vb w S m1 hl t v h
    have h' := s3 t v (by rw [hap]; exact h)
    rw [hmo, hap] at h'
    exact h'
  · obtain ⟨a, rfl⟩ := h8; obtain ⟨b, rfl⟩ := s2; exact ⟨a ++ b, by simp⟩
  · refine ⟨h11.1, h11.2.imp id ?_⟩
    rintro ⟨g, cap, cur, e1, e2, e3, e4⟩
    exact ⟨g, cap, cur, e1, e2, s1.con _ _ _ _ e3 (.inr rfl), e4⟩
  · obtain ⟨a, rfl⟩ := h13; exact ⟨a ++ m1, by simp⟩
theorem MapSt.push [Inhabited Low] {BI : Inhabited Bar} {ab fb sbx fbx lbx : Nat} {tv m : Value} {all : List Nat} {kk : Bytes} {vb0 : List Nat} {S0 : Sub} {w0 : World} {c : Nat} {vb : List Nat} {S : Sub} {mp : List (Nat × Nat)} {ts : List Ty} {vs : List Value} {sl : Value} {X : List Nat} {w : World}
    (h : MapSt BI ab fb sbx fbx lbx tv m all kk vb0 S0 w0 c vb S mp ts vs sl X w) {a : Ty} {va : Value} (ha : @TyE _ (barX BI X) vb w a va) {w2 w3 : World} (hk : Keeps [] w w2) (g cap : Nat)
    (ho : w3.ownsRow (c + 1) 116 1 (.slice (some ⟨g, 0, none⟩) (vs.length + 1) cap) (vs.length + 1) (vs ++ [va])) (hg : w2.grownBy w3 sl.ownBlock) (hl : sl.ownBlock = some g ∨ w.heap.size ≤ g) :
    ∃ X', MapSt BI ab fb sbx fbx lbx tv m all kk vb0 S0 w0 c vb S mp (ts ++ [a]) (vs ++ [va]) (.slice (some ⟨g, 0, none⟩) (vs.length + 1) cap) X' (w3.setCell ⟨c, 1, none⟩ (.slice (some ⟨g, 0, none⟩) (vs.length + 1) cap)) := by
  obtain ⟨h1, h2, h3, h4, h5, h6, h7, h8, h9, h10, h11, h12, h13, h14⟩ := h
  have hrl := h11.lt
  have hgl := ho.lt g rfl
  have hcw := lt_of_some h10
  have hsz := hk.size
  have hsz2 := hg.size
  have hkk : Keeps (c :: sl.ownBlock.toList) w (w3.setCell ⟨c, 1, none⟩ (.slice (some ⟨g, 0, none⟩) (vs.length + 1) cap)) := by
    refine Keeps.setCell (((hk.mono (M' := c :: sl.ownBlock.toList) (by simp)).grown hg ?_)) ?_ _
    · intro k e; exact .inl (by simp [e])
    · exact .inl (by simp)
  have hF : Fill (c :: sl.ownBlock.toList) w := by
    intro y hy
    simp only [List.mem_cons, Option.mem_toList] at hy
    rcases hy with rfl | hy
    · exact ⟨_, _, _, h10, .inl rfl⟩
    · rcases h11.2 with ⟨rfl, _⟩ | ⟨g', cap', cur, rfl, _, e3, _⟩
      · simp [Value.ownBlock] at hy
      · simp only [Value.ownBlock, Option.some.injEq] at hy
        subst hy
        exact ⟨_, _, _, e3, .inr rfl⟩
  have hY : ∀ y ∈ c :: sl.ownBlock.toList, y ∈ @barB (barX BI X) ∨ w.heap.size ≤ y := by
    intro y hy
    simp only [List.mem_cons, Option.mem_toList] at hy
    rcases hy with rfl | hy
    · exact .inl (mem_barX.2 (.inl h2))
    · exact .inl (mem_barX.2 (.inl (h3 _ hy)))
  have hcon : (w3.setCell ⟨c, 1, none⟩ (.slice (some ⟨g, 0, none⟩) (vs.length + 1) cap)).heap[c]? = some (conO kk (.slice (some ⟨g, 0, none⟩) (vs.length + 1) cap)) := by
    have hb : w3.heap[c]? = some (conO kk sl) := (hg.block c (by omega) (fun e => by have := (hrl c e.symm).1; omega)).trans (hk.some h10 (by simp))
    have h := block_setCell hb 1 (.slice (some ⟨g, 0, none⟩) (vs.length + 1) cap)
    simpa using h
  have hrow : (w3.setCell ⟨c, 1, none⟩ (.slice (some ⟨g, 0, none⟩) (vs.length + 1) cap)).ownsRow (c + 1) 116 1 (.slice (some ⟨g, 0, none⟩) (vs.length + 1) cap) (vs ++ [va]).length (vs ++ [va]) := by
    rw [show (vs ++ [va]).length = vs.length + 1 by simp]
    refine ⟨ho.1, ?_⟩
    rcases ho.2 with ⟨h, _⟩ | ⟨g', cap', cur, e1, e2, e3, e4⟩
    · cases h
    · refine .inr ⟨g', cap', cur, e1, e2, block_setCell_other e3 _ _ ?_, e4⟩
      show g' ≠ c
      omega
  have hk0 : K0 [ab, fb] w0 (w3.setCell ⟨c, 1, none⟩ (.slice (some ⟨g, 0, none⟩) (vs.length + 1) cap)) := by
    refine h12.tail hkk fun y hy => ?_
    simp only [List.mem_cons, Option.mem_toList] at hy
    rcases hy with rfl | hy
    · exact h1
    · have := (hrl _ hy).1; omega
  have hts : ∀ (BJ : Inhabited Bar), (∀ t v, @TyE _ (barX BI X) vb w t v → @TyE _ BJ vb (w3.setCell ⟨c, 1, none⟩ (.slice (some ⟨g, 0, none⟩) (vs.length + 1) cap)) t v) → ∀ (j : Nat) t v, (ts ++ [a])[j]? = some t → (vs ++ [va])[j]? = some v → @TyE _ BJ vb (w3.setCell ⟨c, 1, none⟩ (.slice (some ⟨g, 0, none⟩) (vs.length + 1) cap)) t v := by
    intro BJ hb j t v e1 e2
    refine hb t v ?_
    rcases Nat.lt_trichotomy j ts.length with hj | hj | hj
    · rw [List.getElem?_append_left hj] at e1
      rw [List.getElem?_append_left (by omega)] at e2
      exact h6 j t v e1 e2
    · subst hj
      rw [List.getElem?_append_right (Nat.le_refl _)] at e1
      rw [h9, List.getElem?_append_right (Nat.le_refl _)] at e2
      simp at e1 e2
      subst e1
      subst e2
      exact ha
    · rw [List.getElem?_eq_none (by simp; omega)] at e1
      cases e1
  by_cases hold : sl.ownBlock = some g
  · have hB := fun t v (h : @TyE _ (barX BI X) vb w t v) => TyE.turn (X := []) hkk hF hY (by simp) h
    exact ⟨X, h1, h2, fun k e => by simp only [Value.ownBlock, Option.some.injEq] at e; subst e; exact h3 _ hold, h4, (h5.turn (X := []) hkk hF hY (by simp)), hts _ hB, fun t v e => hB _ _ (h7 t v e), h8, by simp [h9], hcon, hrow, hk0, h13, by simp⟩
  · have hgw : w.heap.size ≤ g := hl.resolve_left hold
    have hX : ∀ x ∈ [g], w.heap.size ≤ x ∧ x < (w3.setCell ⟨c, 1, none⟩ (.slice (some ⟨g, 0, none⟩) (vs.length + 1) cap)).heap.size := by
      intro x hx
      simp only [List.mem_singleton] at hx
      subst hx
      exact ⟨hgw, by simpa [World.setCell] using hgl.2⟩
    have hB := fun t v (h : @TyE _ (barX BI X) vb w t v) => TyE.turn (X := [g]) hkk hF hY (fun x hx => (hX x hx).1) h
    exact ⟨g :: X, h1, by simp [h2], fun k e => by simp only [Value.ownBlock, Option.some.injEq] at e; subst e; simp, fun x hx => by
      rcases List.mem_cons.1 hx with rfl | hx
      · have := h12.size; omega
      · exact h4 x hx, h5.turn (X := [g]) hkk hF hY hX, hts _ hB, fun t v e => hB _ _ (h7 t v e), h8, by simp [h9], hcon, hrow, hk0, h13, by simp⟩
theorem MapSt.done [Inhabited Low] {BI : Inhabited Bar} {ab fb sbx fbx lbx : Nat} {tv m : Value} {all : List Nat} {t : Ty} {vb0 : List Nat} {S0 : Sub} {w0 : World} {c : Nat} {vb : List Nat} {S : Sub} {mp : List (Nat × Nat)} {ts : List Ty} {vs : List Value} {sl : Value} {X : List Nat} {w : World}
    (h : MapSt BI ab fb sbx fbx lbx tv m all (kindT t) vb0 S0 w0 c vb S mp ts vs sl X w) (hv : isVarT t = false) (hb : ∀ x ∈ @barB BI, x < w0.heap.size) (hl : ts.length = (kidsT t).length) :
    @TyE _ BI vb w (kindOf t ts) (cV c) ∧ @Stp _ BI [ab, fb] vb0 S0 w0 vb S w ∧ @NewSt _ BI ab fb sbx fbx lbx tv m all vb S mp w := by
  obtain ⟨h1, h2, h3, h4, h5, h6, h7, h8, h9, h10, h11, h12, h13, h14⟩ := h
  refine ⟨?_, @Stp.mk _ BI _ _ _ _ _ _ _ h12 h8 fun t v e => (h7 t v e).less, h5.less⟩
  have hnb : ∀ x, w0.heap.size ≤ x → x ∉ @barB BI := fun x hx hm => by have := hb x hm; omega
  have hcn := hnb c h1
  have hrow : ∀ x, vs.length = x + 1 → @RowE BI w sl vs := fun x hx => by
    rcases h11.2 with ⟨_, h⟩ | ⟨g', cap', cur, rfl, _, e3, _, _, _, e4⟩
    · omega
    · refine @Exists.intro _ _ g' ⟨cap', cur, rfl, hnb g' (h4 _ (h3 g' rfl)), e3, fun j v hj => ?_⟩
      rw [← e4, List.getElem?_take] at hj
      split at hj
      · simpa using hj
      · cases hj
  have hts := fun j t v e1 e2 => (h6 j t v e1 e2).less
  match t, ts, vs, hl, h9 with
  | .int, [], [], _, _ => cases h14 rfl; exact ⟨c, .con rfl, hcn, h10⟩
  | .bool, [], [], _, _ => cases h14 rfl; exact ⟨c, .con rfl, hcn, h10⟩
  | .list _, [a], [va], _, _ => exact ⟨c, sl, va, .con rfl, ⟨hcn, h10⟩, hrow 0 rfl, hts 0 _ _ rfl rfl⟩
  | .pair _ _, [a, b], [va, vc], _, _ => exact ⟨c, sl, va, vc, .con rfl, ⟨hcn, h10⟩, hrow 1 rfl, hts 0 _ _ rfl rfl, hts 1 _ _ rfl rfl⟩
  | .arr _ _, [a, b], [va, vc], _, _ => exact ⟨c, sl, va, vc, .con rfl, ⟨hcn, h10⟩, hrow 1 rfl, hts 0 _ _ rfl rfl, hts 1 _ _ rfl rfl⟩
  | .var _, _, _, _, _ => simp [isVarT] at hv
theorem instL_more (all : List Nat) (ks : List Ty) : ∀ (mp : List (Nat × Nat)) (S : Sub) (q : List Ty × List (Nat × Nat) × Sub), instL all ks mp S = some q → (∃ m, q.2.2 = S ++ m) ∧ q.1.length = ks.length := by
  induction ks with
  | nil => intro mp S q h; cases h; exact ⟨⟨[], by simp⟩, rfl⟩
  | cons a r ih =>
    intro mp S q h
    simp only [instL] at h
    obtain ⟨⟨p, mq, Sq⟩, hq, h2⟩ := Option.bind_eq_some_iff.1 h
    obtain ⟨x, hp, h3⟩ := Option.bind_eq_some_iff.1 h2
    cases h3
    obtain ⟨m1, rfl⟩ := inst_more _ _ _ _ _ _ _ hq
    obtain ⟨⟨m2, e⟩, e2⟩ := ih _ _ _ hp
    exact ⟨⟨m1 ++ m2, by simp [e]⟩, by simp [e2]⟩
theorem undTypesM : Tryz.prog.underlying 185 = some (.slice 116) := by kernel_rfl
theorem infoTypeM : (Tryz.prog.info? 116).map (fun i => (i.zero, i.size, i.bytes)) = some (some .nilIface, 1, 16) := by kernel_rfl

theorem instL_append (all : List Nat) (l l2 : List Ty) : ∀ (mp : List (Nat × Nat)) (S : Sub), instL all (l ++ l2) mp S = (instL all l mp S).bind fun p => (instL all l2 p.2.1 p.2.2).bind fun q => some (p.1 ++ q.1, q.2) := by
  induction l with
  | nil => intro mp S; simp only [List.nil_append, instL, Option.bind_some]; cases instL all l2 mp S <;> rfl
  | cons a r ih =>
    intro mp S
    simp only [List.cons_append, instL]
    cases inst all a mp S with
    | none => rfl
    | some p =>
      simp only [Option.bind_some, ih]
      cases instL all r p.2.1 p.2.2 with
      | none => rfl
      | some q =>
        simp only [Option.bind_some]
        cases instL all l2 q.2.1 q.2.2 <;> rfl
theorem instL_next {all : List Nat} {ks : List Ty} {mp : List (Nat × Nat)} {S : Sub} {q : List Ty × List (Nat × Nat) × Sub} (h : instL all ks mp S = some q) {j : Nat} {a : Ty} (ha : ks[j]? = some a) {p : List Ty × List (Nat × Nat) × Sub} (hp : instL all (ks.take j) mp S = some p) :
    ∃ r, inst all a p.2.1 p.2.2 = some r ∧ instL all (ks.take (j + 1)) mp S = some (p.1 ++ [r.1], r.2) := by
  have e : ks = ks.take j ++ (a :: ks.drop (j + 1)) := by
    obtain ⟨hj, rfl⟩ := List.getElem?_eq_some_iff.1 ha
    simp
  rw [e, instL_append, hp] at h
  simp only [Option.bind_some, instL] at h
  cases hr : inst all a p.2.1 p.2.2 with
  | none => rw [hr] at h; simp at h
  | some r =>
    refine ⟨r, rfl, ?_⟩
    rw [take_next' ha, instL_append, hp]
    simp only [Option.bind_some, instL, hr]

set_option maxRecDepth 100000 in
set_option maxHeartbeats 4000000 in
theorem map_any [Inhabited Low] {ab fb sbx fbx lbx : Nat} {tv m : Value} {all : List Nat} (htv : ∃ tt tp, tv = .iface tt tp) (n : Nat) : ∀ (t : Ty), t.size ≤ n → ∀ (BI : Inhabited Bar) (vb : List Nat) (S : Sub) (mp : List (Nat × Nat)) (w : World) (v : Value) (t' : Ty) (mp' : List (Nat × Nat)) (S' : Sub),
    @NewSt _ BI ab fb sbx fbx lbx tv m all vb S mp w → @TyE _ BI vb w t v → inst all t mp S = some (t', mp', S') →
    Calls Tryz.prog 166 #[v, .func (.func 167) #[] #[.pointer (some ⟨sbx, 0, none⟩), .pointer (some ⟨fbx, 0, none⟩), .pointer (some ⟨lbx, 0, none⟩)]] w fun e w' =>
      ∃ v' vb', e = .returned v' ∧ @TyE _ BI vb' w' t' v' ∧ @Stp _ BI [ab, fb] vb S w vb' S' w' ∧ @NewSt _ BI ab fb sbx fbx lbx tv m all vb' S' mp' w' := by
  induction n with
  | zero => intro t h; have := t.size_pos; omega
  | succ n ih =>
    intro t ht BI vb S mp w v t' mp' S' hn hv hi
    obtain ⟨r, hf⟩ := hv.fnd
    have HV := Lib.hid hv
    have HF := Lib.hid hf
    have HIH := Lib.hid ih
    have HN := Lib.hid hn
    have HI := Lib.hid hi
    have hsh := hv.shape
    clear hv hf ih hn hi
    rcases hsh with ⟨vb1, rfl⟩ | ⟨vc, rfl⟩
    all_goals
      go_enter Tryz.func166, Tryz.ntmps166
      go_wp2_with fail
      first | refine (find_var HF.out).mono ?_ | refine (find_con HF.out).mono ?_
      rintro e w1 ⟨rfl, hk⟩
      have hr1 := (hk.te HV.out).res (hk.fnd _ _ HF.out)
      have HK := Lib.hid hk
      have HN1 := Lib.hid (HN.out.kv hk)
      clear hk HF
      by_cases hvar : isVarT t = true
      · obtain ⟨vn, rfl⟩ : ∃ vn, t = .var vn := by cases t <;> first | exact ⟨_, rfl⟩ | simp [isVarT] at hvar
        obtain ⟨b2, nm2, h1, h2, rfl, hlo, hb2⟩ := hr1
        have hta := swVarVar (.pointer (some ⟨b2, 0, none⟩)) 116 w1
        have hent : ∀ W : World, (callFunc 167 (#[.pointer (some ⟨b2, 0, none⟩)] ++ #[.pointer (some ⟨sbx, 0, none⟩), .pointer (some ⟨fbx, 0, none⟩), .pointer (some ⟨lbx, 0, none⟩)])).run Tryz.prog W = .ok (.enter 167 (#[.pointer (some ⟨b2, 0, none⟩)] ++ #[.pointer (some ⟨sbx, 0, none⟩), .pointer (some ⟨fbx, 0, none⟩), .pointer (some ⟨lbx, 0, none⟩)])) W := fun W => by kernel_rfl
        have HCALL := Lib.hid (new1_call HN1.out htv h1 h2 hb2 hlo HI.out)
        clear hvar hb2 h2
        go_wp2_with fail
        refine HCALL.out.mono ?_
        rintro e w2 ⟨v', vb', rfl, hty, hst, hnew⟩
        have HT := Lib.hid hty
        have HS := Lib.hid hst
        have HW := Lib.hid hnew
        clear hty hst hnew
        go_wp2
        go_ret
        exact ⟨v', vb', rfl, HT.out, ((HK.out.mono (by simp)).stp vb S).trans HS.out, HW.out⟩
      · obtain ⟨c, ad, cap, vs, rfl, hc, hrow, hkids⟩ := hr1.kids (eq_false_of_ne_true hvar)
        have HNV := Lib.hid (eq_false_of_ne_true hvar)
        have HHK := Lib.hid (inst_kids all (eq_false_of_ne_true hvar) mp S)
        have hta := swVarCon (.pointer (some ⟨c, 0, none⟩)) 116 w1
        have hta2 := swConCon (.pointer (some ⟨c, 0, none⟩)) 116 w1
        have c0 : w1.cell? ⟨c, 0, none⟩ = some (.string (bs (kindT t))) := cell_of_block hc 0
        have c1 : w1.cell? ⟨c, 1, none⟩ = some (.slice ad vs.length cap) := cell_of_block hc 1
        have hfew := kids_few t
        have hlen : vs.length ≤ 2 := by rw [hkids.1]; exact hfew
        have HR := Lib.hid hrow
        have HKD := Lib.hid hkids
        have HL := Lib.hid hkids.1
        have HC := Lib.hid hc
        clear hvar hr1 hc hrow hkids hfew
        have hcz : c < w1.heap.size := lt_of_some HC.out
        have c1b : (w1.alloc (Obj.cells #[.string (bs (kindT t)), .slice none 0 0] 187)).cell? ⟨c, 1, none⟩ = some (.slice ad vs.length cap) := cell_of_block (block_alloc_old HC.out) 1
        have hq : ∃ q, instL all (kidsT t) mp S = some q ∧ some (kindOf t q.1, q.2) = some (t', mp', S') := by
          have h := HI.out
          rw [HHK.out] at h
          exact Option.bind_eq_some_iff.1 h
        obtain ⟨q, hq1, hq2⟩ := hq
        have HQ1 := Lib.hid hq1
        have HQ2 := Lib.hid hq2
        clear hq1 hq2 HHK HI
        have hst0 : MapSt BI ab fb sbx fbx lbx tv m all (kindT t) vb S w1 w1.heap.size vb S mp [] [] (.slice none 0 0) [w1.heap.size] (w1.alloc (.cells #[.string (bs (kindT t)), .slice none 0 0] 187)) :=
          ⟨Nat.le_refl _, by simp, fun k h => by simp [Value.ownBlock] at h, by simp, HN1.out.turn (Y := []) ((Keeps.refl [] w1).alloc _) (fun y hy => by cases hy) (fun y hy => by cases hy) (by simp), fun j t v h => by simp at h,
            fun t v h => TyE.turn (Y := []) ((Keeps.refl [] w1).alloc _) (fun y hy => by cases hy) (fun y hy => by cases hy) (by simp) h, ⟨[], by simp⟩, rfl, block_alloc w1 _, World.ownsRow_nil _ _ _ _, (kv_alloc w1 _).k0.mono (by simp), ⟨[], by simp⟩, fun _ => rfl⟩
        have HST0 := Lib.hid hst0
        clear hst0
        go_wp2_with fail
        go_loopg [32] vs.length (fun gg i wx => ∃ (j : Nat) (vbj : List Nat) (Sj : Sub) (mpj : List (Nat × Nat)) (ts : List Ty) (us : List Value) (sl : Value) (X : List Nat), gg = vs.length - j ∧ i = .int .i64 j ∧ j ≤ vs.length ∧ us.length = j ∧ instL all ((kidsT t).take j) mp S = some (ts, mpj, Sj) ∧ MapSt BI ab fb sbx fbx lbx tv m all (kindT t) vb S w1 w1.heap.size vbj Sj mpj ts us sl X wx)
        case atStart => exact ⟨0, vb, S, mp, [], [], _, _, rfl, rfl, by omega, rfl, by simp [instL], HST0.out⟩
        case round =>
          obtain ⟨j, vbj, Sj, mpj, ts, us, sl, X, hg, rfl, hj, hus, hin, hms⟩ := hrel
          have HG := Lib.hid hg
          have HIN := Lib.hid hin
          have HMS := Lib.hid hms
          have HUS := Lib.hid hus
          clear hg hin hms hus
          by_cases hlt : j < vs.length
          · have hjk : j < (kidsT t).length := by rw [← HL.out]; exact hlt
            obtain ⟨a, ha⟩ : ∃ a, (kidsT t)[j]? = some a := ⟨_, List.getElem?_eq_getElem hjk⟩
            obtain ⟨va, hva⟩ : ∃ va, vs[j]? = some va := ⟨_, List.getElem?_eq_getElem hlt⟩
            have hta2 := HKD.out.2 j a va ha hva
            obtain ⟨g, rfl, hcell⟩ := (HMS.out.k0.rowC HR.out).cell hva
            have hlt' := kids_lt (List.mem_of_getElem? ha)
            obtain ⟨⟨a', mpa, Sa⟩, hra, hrb⟩ := instL_next HQ1.out ha HIN.out
            have HRA := Lib.hid hra
            have HRB := Lib.hid hrb
            have HTY := Lib.hid hta2
            have hdl : decide ((j : Int) < (vs.length : Int)) = true := by simpa using hlt
            obtain ⟨vt, vp, rfl⟩ : ∃ vt vp, va = .iface vt vp := by rcases hta2.shape with ⟨_, rfl⟩ | ⟨_, rfl⟩ <;> exact ⟨_, _, rfl⟩
            have cn : wr.cell? ⟨w1.heap.size, 1, none⟩ = some sl := cell_of_block HMS.out.con 1
            have hwz : w1.heap.size < wr.heap.size := lt_of_some HMS.out.con
            have hfl : wr.frozen? ⟨w1.heap.size, 1, none⟩ = false := free_of_block HMS.out.con 1
            have hE1 := HN1.out.eng
            have hapa := TyE.self_ap hE1 HTY.out
            have htk : @TyE _ (barX BI X) vbj wr a (.iface vt vp) := by
              obtain ⟨m1, hm1⟩ := HMS.out.more
              have h1 := HMS.out.ty a (.iface vt vp) (by rw [hapa]; exact HTY.out)
              have h2 := HTY.out.ap_more (m := m1) hE1.len
              rw [hm1, h2, hapa] at h1
              exact h1
            have HTK := Lib.hid htk
            obtain ⟨ib, hib, hib0, hib1, hib2⟩ := info_parts infoTypeM
            clear hta2 ha hva hjk hra hrb HST0 hE1 hapa htk
            have hsm := instL_more all (kidsT t)
            obtain ⟨mm, hmm⟩ := inst_more _ _ _ _ _ _ _ HRA.out
            have hkd : KV [] wr wr.drew := (Keeps.refl [] wr).drew.kv0
            have HCALL := Lib.hid (HIH.out a (by omega) (barX BI X) vbj Sj mpj wr.drew (.iface vt vp) a' mpa Sa (@NewSt.kv _ (barX BI X) _ _ _ _ _ _ _ _ _ _ _ _ _ HMS.out.st hkd) (@KV.te _ (barX BI X) _ _ _ hkd _ _ _ HTK.out) HRA.out)
            have HMSD := Lib.hid (HMS.out.call (@KV.stp _ (barX BI X) _ _ _ (hkd.mono (by simp)) vbj Sj) (@NewSt.kv _ (barX BI X) _ _ _ _ _ _ _ _ _ _ _ _ _ HMS.out.st hkd) ⟨[], by simp⟩)
            clear hkd HTK hsm
            go_wp2_with fail
            go_region_law (first
              | (go_simp; go_at_call 166; refine HCALL.out.mono ?_; rintro e u ⟨va', vba, rfl, htya, hsta, hnea⟩
                 have HM2 := Lib.hid (HMSD.out.call hsta hnea ⟨mm, hmm⟩)
                 have HTA := Lib.hid htya
                 have cn3 : u.cell? ⟨w1.heap.size, 1, none⟩ = some sl := cell_of_block HM2.out.con 1
                 have bz3 : w1.heap.size < u.heap.size := lt_of_some HM2.out.con
                 obtain ⟨ut, up, rfl⟩ : ∃ ut up, va' = .iface ut up := by rcases (@TyE.shape _ (barX BI X) _ _ _ _ htya) with ⟨_, rfl⟩ | ⟨_, rfl⟩ <;> exact ⟨_, _, rfl⟩
                 clear htya hsta hnea)
              | (have q1 : (u.alloc (.cells #[.iface ut up] 116)).ownsRow (w1.heap.size + 1) 116 1 sl j us := by
                   have h := HM2.out.row.alloc (.cells #[.iface ut up] 116)
                   rw [HUS.out] at h
                   exact h
                 have q2 : w1.heap.size + 1 ≤ (u.alloc (.cells #[.iface ut up] 116)).heap.size := Nat.le_trans (lt_of_some HM2.out.con) (Nat.le_of_lt (by simp))
                 have q3 : ∀ x ∈ [Value.iface ut up], x.oneCell' = true := by intro x hx; cases hx with | head => rfl | tail _ h => cases h
                 have q4 : j + 1 ≤ maxLen := by unfold maxLen; omega
                 have q5 : (j + 1) * 16 ≤ 140737488355328 := by omega
                 refine step_append_lies _ rfl _ _ 185 rfl (w1.heap.size + 1) 116 ib .nilIface 1 16 undTypesM hib hib0 hib1 hib2 rfl (by decide) sl j us (by simp [Act.eval]) q1 ⟨u.heap.size, 0, none⟩ 1 1 [.iface ut up] (by simp [Act.eval]) rfl (cells_new u [.iface ut up] 116) q3 (by decide) q4 q5 q2 _ rfl ?_
                 intro g5 c5 w5 hown hgr hlg hlt
                 have hb5 := (hgr.block _ (show w1.heap.size < _ from q2) (fun e => absurd (q1.lt _ e.symm).1 (by omega))).trans (block_alloc_old HM2.out.con)
                 have fn5 : w5.frozen? ⟨w1.heap.size, 1, none⟩ = false := free_of_block hb5 1
                 have cn5 : w5.cell? ⟨w1.heap.size, 1, none⟩ = some sl := cell_of_block hb5 1
                 clear q1 q2 q3 q4 q5 hb5))
            all_goals
              have hown2 := hown
              rw [← HUS.out] at hown2
              obtain ⟨X', hpush⟩ := HM2.out.push HTA.out ((Keeps.refl [] u).alloc _) g5 c5 hown2 hgr (hlg.imp id (fun h => Nat.le_trans (by simp) (Nat.le_of_eq h.symm)))
              rw [HUS.out] at hpush
              have HP := Lib.hid hpush
              clear hown hown2 hgr hlg hlt fn5 cn5 cn3 bz3 hpush HM2 HMSD cn hfl hib hib0 hib1 hib2
              go_wp2_with fail
              go_roundg (vs.length - (j + 1))
              case measure => have := HG.out; omega
              case rel => exact ⟨j + 1, vba, Sa, mpa, ts ++ [a'], us ++ [.iface ut up], _, X', rfl, by go_num, by omega, by simp [HUS.out], HRB.out, HP.out⟩
          · have hdl : decide ((j : Int) < (vs.length : Int)) = false := by simpa using hlt
            have hjl : (kidsT t).take j = kidsT t := List.take_of_length_le (by rw [← HL.out]; omega)
            have hin := HIN.out
            rw [hjl, HQ1.out] at hin
            cases hin
            have hq2 := HQ2.out
            simp only [Option.some.injEq, Prod.mk.injEq] at hq2
            obtain ⟨rfl, rfl, rfl⟩ := hq2
            obtain ⟨d1, d2, d3⟩ := HMS.out.done HNV.out HN1.out.eng.bar (instL_more all _ _ _ _ HQ1.out).2
            have D1 := Lib.hid d1
            have D2 := Lib.hid d2
            have D3 := Lib.hid d3
            clear d1 d2 d3 hjl
            go_wp2
            go_ret
            first
              | exact ⟨_, _, rfl, D1.out, ((HK.out.mono (by simp)).stp vb S).trans D2.out, D3.out⟩
              | exact ⟨_, rfl, _, D1.out, ((HK.out.mono (by simp)).stp vb S).trans D2.out, D3.out⟩
              | exact ⟨cV w1.heap.size, rfl, vbj, D1.out, ((HK.out.mono (by simp)).stp vb S).trans D2.out, D3.out⟩
end Go.Proofs.YtpbplpnifjbkoabGreatDoor

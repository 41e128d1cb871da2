/-
  engine.part at applications, by contract.
-/
import Derived.Test.YtpbplpnifjbkoabGreatDoorOfx
import Derived.Deep.RegionHeld3
namespace Go.Proofs.YtpbplpnifjbkoabGreatDoor
open Go.RowKit

set_option maxRecDepth 100000 in
set_option maxHeartbeats 4000000 in
theorem part_app [Inhabited Low] [Inhabited Bar] {a : Nat → Addr} {B lo hi gb ab fuel uf : Nat} {each : Value} {watch : Option Nat} {Mw : List Nat} {wst : List Told → World → Prop} (R : Rig a B lo hi gb ab Mw wst) {x y : Exp}
    (hx : OfOK a B lo hi gb ab fuel uf each watch Mw wst x) (hy : OfOK a B lo hi gb ab fuel uf each watch Mw wst y) {env : Env} {st : St} {r : Rz}
    (hr : ((ofE uf fuel watch x env st).bind fun t st => (ofE uf fuel watch y env st).bind fun u st => (newVar st).bind fun v st => (unify uf t (.arr u v) st).bind fun _ st => some (.ok (v, st))) = some r) {vb : List Nat} {w : World} {ev xv yv : Value} {b p : Nat} (I : Inv a B lo hi gb ab fuel each wst vb st env ev w)
    (hb : w.heap[b]? = some (.cells #[.int .i64 p, xv, yv] 263 (0, 0))) (hlo : lo ≤ b ∧ b < hi) (hex : ExprAt w lo hi x [] [] xv) (hey : ExprAt w lo hi y [] [] yv) :
    Calls Tryz.prog 96 #[.pointer (some ⟨gb, 0, none⟩), ifp 261 b, ev] w (EPost a ab (ab :: Mw) wst vb st.S w r) := by
  have t1 := psAppNum b
  have t2 := psAppName b
  have t3 := psAppFun b
  have t4 := psApp b
  have c1 := cell_of_block hb 1
  simp at c1
  have HX := Lib.hid hx
  have HY := Lib.hid hy
  have HI := Lib.hid I
  have HB := Lib.hid hb
  have HEX := Lib.hid hex
  have HEY := Lib.hid hey
  have HR := Lib.hid hr
  clear hx hy I hb hex hey hr
  go_enter Tryz.func96, Tryz.ntmps96
  cases h1 : ofE uf fuel watch x env st with
  | none => have h := HR.out; rw [h1] at h; cases h
  | some r1 =>
    have h := HR.out
    rw [h1] at h
    have HC1 := Lib.hid (HX.out env st r1 h1 vb w xv ev HI.out HEX.out)
    have HR1 := Lib.hid h
    clear h h1 HX HR
    go_wp2_with fail
    refine HC1.out.mono ?_
    intro e w1 hp
    rcases r1 with ⟨f, l⟩ | ⟨t, st1⟩
    · obtain ⟨k, hk, rfl, rfl, hk0, hw⟩ := hp
      have h := HR1.out
      cases h
      go_wp2
      exact ⟨rfl, k, hk, rfl, rfl, hk0, hw⟩
    · obtain ⟨v1, vb1, rfl, hty1, hst1, he1, hw1⟩ := hp
      have HT1 := Lib.hid hty1
      have HS1 := Lib.hid hst1
      have HI1 := Lib.hid (HI.out.step R hst1 he1 hw1)
      have HEY1 := Lib.hid (R.expr hst1.k0 HI.out.hi_ HEY.out)
      have hb1 := R.blk hst1.k0 HI.out.hi_ hlo HB.out
      have c2 := cell_of_block hb1 2
      simp at c2
      have h := HR1.out
      simp only [M.bind] at h
      obtain ⟨vt1, vp1, rfl⟩ : ∃ vt vp, v1 = .iface vt vp := by rcases hty1.shape with ⟨_, rfl⟩ | ⟨_, rfl⟩ <;> exact ⟨_, _, rfl⟩
      clear hty1 hst1 he1 hw1 hb1 c1 HEY HC1 HR1
      cases h2 : ofE uf fuel watch y env st1 with
      | none => rw [h2] at h; cases h
      | some r2 =>
        rw [h2] at h
        have HC2 := Lib.hid (HY.out env st1 r2 h2 vb1 w1 yv ev HI1.out HEY1.out)
        have HR2 := Lib.hid h
        clear h h2
        go_wp2_with fail
        refine HC2.out.mono ?_
        intro e w2 hp
        rcases r2 with ⟨f, l⟩ | ⟨u, st2⟩
        · obtain ⟨k, hk, rfl, rfl, hk0, hw⟩ := hp
          have h := HR2.out
          cases h
          go_wp2
          exact ⟨rfl, k, hk, rfl, rfl, HS1.out.k0.transM hk0, hw⟩
        · obtain ⟨v2, vb2, rfl, hty2, hst2, he2, hw2⟩ := hp
          have HT2 := Lib.hid hty2
          have HS2 := Lib.hid hst2
          have HI2 := Lib.hid (HI1.out.step R hst2 he2 hw2)
          have h := HR2.out
          obtain ⟨vt2, vp2, rfl⟩ : ∃ vt vp, v2 = .iface vt vp := by rcases hty2.shape with ⟨_, rfl⟩ | ⟨_, rfl⟩ <;> exact ⟨_, _, rfl⟩
          have g0 : w2.cell? ⟨gb, 0, none⟩ = some (.pointer (some ⟨ab, 0, none⟩)) := cell_of_block HI2.out.gbk 0
          have hfr : st2.S.length < 100000 := by
            by_cases hf : st2.S.length < 100000
            · exact hf
            · simp [newVar, fresh, hf] at h
          simp only [newVar, fresh, if_pos hfr] at h
          have HN := Lib.hid (vars_new he2 hfr)
          have HW2 := Lib.hid hw2
          clear hty2 hst2 he2 hw2 c2 HR2 HC2
          have HR3 := Lib.hid h
          clear h
          go_wp2_with fail
          refine HN.out.mono ?_
          rintro e w3 ⟨rfl, hst3, he3, hty3⟩
          have HS3 := Lib.hid hst3
          have HE3 := Lib.hid he3
          have HT3 := Lib.hid hty3
          have HW3 := Lib.hid (R.wat.keep _ _ _ HW2.out hst3.k0)
          clear hst3 he3 hty3 g0 HN
          go_wp2_with fail
          refine (of_any ⟨#[102, 117, 110]⟩ (.slice (some ⟨w3.heap.size, 0, none⟩) 2 2) _ (.inr ⟨_, _, _, rfl⟩)).mono ?_
          rintro e w4 ⟨rfl, hw4⟩
          have hkv := (two_row (v1 := .iface vt2 vp2) (v2 := vV w2.heap.size) (k := ⟨#[102, 117, 110]⟩) HE3.out).1
          have hnew := (two_new HE3.out (HS3.out.ty _ _ HT2.out) HT3.out).2 ⟨#[102, 117, 110]⟩ kFun rfl rfl
          rw [show (w3.alloc (.cells #[.iface vt2 vp2, vV w2.heap.size] 116)).heap.size = w3.heap.size + 1 by simp] at hnew
          have hva : (Ty.var (st2.S.length + 1)).ap (st2.S ++ [.var (st2.S.length + 1)]) = .var (st2.S.length + 1) := by simp [Ty.ap, Sub.look]
          have htv := hkv.te HT3.out
          have htt := hkv.te (HS3.out.ty _ _ (HS2.out.ty _ _ HT1.out))
          have hkk : KV [] w3 w4 := by rw [← hw4]; exact hkv
          replace hnew : TyE (vb2 ++ [w2.heap.size]) w4 ((Ty.arr u (.var (st2.S.length + 1))).ap (st2.S ++ [.var (st2.S.length + 1)])) (cV (w3.heap.size + 1)) := by
            rw [← hw4]
            simp only [Ty.ap] at hva ⊢
            rw [hva]
            exact hnew
          replace htv : TyE (vb2 ++ [w2.heap.size]) w4 ((Ty.var (st2.S.length + 1)).ap (st2.S ++ [.var (st2.S.length + 1)])) (vV w2.heap.size) := by rw [← hw4, hva]; exact htv
          replace htt : TyE (vb2 ++ [w2.heap.size]) w4 (t.ap (st2.S ++ [.var (st2.S.length + 1)])) (.iface vt1 vp1) := by rw [← hw4]; exact htt
          have HE4 := Lib.hid (HE3.out.kv hkk (by simp))
          have HG4 := Lib.hid (hkk.k0.gl (HS3.out.k0.gl HI2.out.gl R.bl (by intro m hm; simp only [List.mem_singleton] at hm; subst hm; exact R.ab_.1)) R.bl (by simp))
          have HW4 := Lib.hid (R.wat.keep _ _ _ HW3.out (hkk.k0.mono (by simp)))
          have HST4 := Lib.hid (((HS1.out.trans HS2.out).trans (HS3.out.mono (by simp))).trans ((hkk.mono (by simp)).stp (vb2 ++ [w2.heap.size]) (st2.S ++ [.var (st2.S.length + 1)])))
          have HTV := Lib.hid htv
          have h := HR3.out
          clear hkv hva hw4 htv HT3
          cases hun : unF uf (st2.S ++ [.var (st2.S.length + 1)]) t (.arr u (.var (st2.S.length + 1))) with
          | none => simp [unify, hun] at h
          | some rr =>
            have HEQ := Lib.hid (equal_any (g := .pointer (some ⟨gb, 0, none⟩)) HG4.out R.bl HE4.out htt hnew hun)
            cases rr with
            | none =>
              simp only [unify, hun, Option.some.injEq] at h
              subst h
              clear htt hnew hun HR3
              go_wp2_with fail
              refine HEQ.out.mono ?_
              rintro e w5 ⟨rfl, hk0⟩
              go_wp2
              exact ⟨rfl, 3, by omega, rfl, rfl, HST4.out.k0.transM (hk0.mono (by simp)), R.wat.keep _ _ _ HW4.out (hk0.mono (by simp))⟩
            | some S5 =>
              simp only [unify, hun, Option.some.injEq] at h
              subst h
              clear htt hnew hun HR3
              go_wp2_with fail
              refine HEQ.out.mono ?_
              rintro e w5 ⟨rfl, hst5, he5⟩
              have HS5 := Lib.hid hst5
              have HE5 := Lib.hid he5
              clear hst5 he5
              go_wp2
              go_ret
              exact ⟨vV w2.heap.size, _, rfl, HS5.out.ty _ _ HTV.out, HST4.out.trans (HS5.out.mono (by simp)), HE5.out, R.wat.keep _ _ _ HW4.out (HS5.out.k0.mono (by simp))⟩
end Go.Proofs.YtpbplpnifjbkoabGreatDoor

namespace Go.Proofs.YtpbplpnifjbkoabGreatDoor
open Go.RowKit

set_option maxRecDepth 100000 in
set_option maxHeartbeats 4000000 in
theorem part_lam [Inhabited Low] [Inhabited Bar] {a : Nat → Addr} {B lo hi gb ab fuel uf : Nat} {each : Value} {watch : Option Nat} {Mw : List Nat} {wst : List Told → World → Prop} (R : Rig a B lo hi gb ab Mw wst) {x : Bytes} {y : Exp}
    (hy : OfOK a B lo hi gb ab fuel uf each watch Mw wst y) {env : Env} {st : St} {r : Rz}
    (hr : ((newVar st).bind fun v st => (ofE uf fuel watch y ((x, ⟨v, []⟩) :: env) st).bind fun u st => some (.ok (.arr v u, st))) = some r) {vb : List Nat} {w : World} {ev yv : Value} {b p : Nat} (I : Inv a B lo hi gb ab fuel each wst vb st env ev w)
    (hb : w.heap[b]? = some (.cells #[.int .i64 p, .string (bs x), yv] 214 (0, 0))) (hlo : lo ≤ b ∧ b < hi) (hey : ExprAt w lo hi y [] [] yv) :
    Calls Tryz.prog 96 #[.pointer (some ⟨gb, 0, none⟩), ifp 212 b, ev] w (EPost a ab (ab :: Mw) wst vb st.S w r) := by
  have t1 := psFunNum b
  have t2 := psFunName b
  have t3 := psFun b
  have g0 : w.cell? ⟨gb, 0, none⟩ = some (.pointer (some ⟨ab, 0, none⟩)) := cell_of_block I.gbk 0
  have hfr : st.S.length < 100000 := by
    by_cases hf : st.S.length < 100000
    · exact hf
    · simp [M.bind, newVar, fresh, hf] at hr
  simp only [M.bind, newVar, fresh, if_pos hfr] at hr
  have HN := Lib.hid (vars_new I.eng hfr)
  have HY := Lib.hid hy
  have HI := Lib.hid I
  have HB := Lib.hid hb
  have HEY := Lib.hid hey
  have HR := Lib.hid hr
  clear hy I hb hey hr
  go_enter Tryz.func96, Tryz.ntmps96
  go_wp2_with fail
  refine HN.out.mono ?_
  rintro e w1 ⟨rfl, hst1, he1, hty1⟩
  have hst1' := hst1.mono (M' := ab :: Mw) (by simp)
  have HS1 := Lib.hid hst1'
  have HT1 := Lib.hid hty1
  have HW1 := R.wat.keep _ _ _ HI.out.wat hst1.k0
  have HI1 := Lib.hid (HI.out.step R (st' := ⟨st.S ++ [.var (st.S.length + 1)], st.told⟩) hst1' he1 HW1)
  have HEY1 := Lib.hid (R.expr hst1'.k0 HI.out.hi_ HEY.out)
  have hb1 := R.blk hst1'.k0 HI.out.hi_ hlo HB.out
  have c1 := cell_of_block hb1 1
  have c2 := cell_of_block hb1 2
  simp at c1 c2
  have HB1 := Lib.hid hb1
  clear hst1 he1 hty1 hst1' HW1 hb1 g0 HN
  go_wp2_with fail
  have HX := Lib.hid (fun (W : World) (hW : K0 (ab :: Mw) w1 W) => (⟨⟨(cell_of_block (R.blk hW HI1.out.hi_ hlo HB1.out) 1).trans (by simp), (cell_of_block (R.blk hW HI1.out.hi_ hlo HB1.out) 2).trans (by simp)⟩, hW⟩ : (W.cell? ⟨b, 1, none⟩ = some (.string (bs x)) ∧ W.cell? ⟨b, 2, none⟩ = some yv) ∧ K0 (ab :: Mw) w1 W))
  have hkd : Keeps [] w1 w1.drew := (Keeps.refl [] w1).drew
  refine wp_region_held_drew (S := (fun W => (W.cell? ⟨b, 1, none⟩ = some (.string (bs x)) ∧ W.cell? ⟨b, 2, none⟩ = some yv) ∧ K0 (ab :: Mw) w1 W)) (by kernel_rfl) (HX.out _ (hkd.kv0.k0.mono (by simp))) (fun hHeld => ?_)
  refine wpAnyH_take (i := 0) (oi := ?o1) (v := ?v1) ?a1 (by kernel_rfl) ?b1 ?c1 ?d1 (Or.inl ⟨?w1, ?y1⟩) (by assumption) ?r1
  case a1 => (simp only [List.getElem?_toArray, List.getElem?_cons_zero]; rfl)
  case b1 => kernel_rfl
  case c1 => kernel_rfl
  case w1 => rfl
  case y1 => (intro w hSw; (try dsimp only at hSw); first | (go_simp; done) | (go_simp; with_reducible rfl))
  case d1 => exact fun _ _ _ h => h
  try simp only [Act.put, List.setIfInBounds_toArray, List.set_cons_zero, List.set_cons_succ]
  refine wpAnyH_take (i := 1) (oi := ?o2) (v := ?v2) ?a2 (by kernel_rfl) ?b2 ?c2 ?d2 (Or.inl ⟨?w2, ?y2⟩) (by assumption) ?r2
  case a2 => (simp only [List.getElem?_toArray, List.getElem?_cons_succ, List.getElem?_cons_zero]; rfl)
  case b2 => kernel_rfl
  case c2 => kernel_rfl
  case w2 => rfl
  case y2 => (intro w hSw; (try dsimp only at hSw); first | (go_simp; done) | (go_simp; with_reducible rfl))
  case d2 => exact fun _ _ _ h => h
  try simp only [Act.put, List.setIfInBounds_toArray, List.set_cons_zero, List.set_cons_succ]
  refine wpAnyH_take (i := 2) (oi := ?o3) (v := ?v3) ?a3 (by kernel_rfl) ?b3 ?c3 ?d3 (Or.inl ⟨?w3, ?y3⟩) (by assumption) ?r3
  case a3 => (simp only [List.getElem?_toArray, List.getElem?_cons_succ, List.getElem?_cons_zero]; rfl)
  case b3 => kernel_rfl
  case c3 => kernel_rfl
  case w3 => rfl
  case y3 => (intro w hSw; (try dsimp only at hSw); first | (go_simp; done) | (go_simp; with_reducible rfl))
  case d3 => exact fun _ _ _ h => h
  try simp only [Act.put, List.setIfInBounds_toArray, List.set_cons_zero, List.set_cons_succ]
  refine wpAnyH_take (i := 3) (oi := ?o4) (v := ?v4) ?a4 (by kernel_rfl) ?b4 ?c4 ?d4 (Or.inl ⟨?w4, ?y4⟩) (by assumption) ?r4
  case a4 => (simp only [List.getElem?_toArray, List.getElem?_cons_succ, List.getElem?_cons_zero]; rfl)
  case b4 => kernel_rfl
  case c4 => kernel_rfl
  case w4 => rfl
  case y4 => (intro w hSw; (try dsimp only at hSw); first | (go_simp; done) | (go_simp; with_reducible rfl))
  case d4 => exact fun _ _ _ h => h
  try simp only [Act.put, List.setIfInBounds_toArray, List.set_cons_zero, List.set_cons_succ]
  refine wpAnyH_take (i := 4) (oi := ?o5) (v := ?v5) ?a5 (by kernel_rfl) ?b5 ?c5 ?d5 (Or.inl ⟨?w5, ?y5⟩) (by assumption) ?r5
  case a5 => (simp only [List.getElem?_toArray, List.getElem?_cons_succ, List.getElem?_cons_zero]; rfl)
  case b5 => kernel_rfl
  case c5 => kernel_rfl
  case w5 => rfl
  case y5 => (intro w hSw; (try dsimp only at hSw); first | (go_simp; done) | (go_simp; with_reducible rfl))
  case d5 => exact fun _ _ _ h => h
  try simp only [Act.put, List.setIfInBounds_toArray, List.set_cons_zero, List.set_cons_succ]
  refine wpAnyH_take (i := 5) (oi := ?o6) (v := ?v6) ?a6 (by kernel_rfl) ?b6 ?c6 ?d6 (Or.inl ⟨?w6, ?y6⟩) (by assumption) ?r6
  case a6 => (simp only [List.getElem?_toArray, List.getElem?_cons_succ, List.getElem?_cons_zero]; rfl)
  case b6 => kernel_rfl
  case c6 => kernel_rfl
  case w6 => rfl
  case y6 => (intro w hSw; (try dsimp only at hSw); first | (go_simp; done) | (go_simp; with_reducible rfl))
  case d6 => exact fun _ _ _ h => h
  try simp only [Act.put, List.setIfInBounds_toArray, List.set_cons_zero, List.set_cons_succ]
  refine wpAnyH_take (i := 6) (oi := ?o7) (v := ?v7) ?a7 (by kernel_rfl) ?b7 ?c7 ?d7 (Or.inl ⟨?w7, ?y7⟩) (by assumption) ?r7
  case a7 => (simp only [List.getElem?_toArray, List.getElem?_cons_succ, List.getElem?_cons_zero]; rfl)
  case b7 => kernel_rfl
  case c7 => kernel_rfl
  case w7 => rfl
  case y7 => (intro w hSw; (try dsimp only at hSw); first | (go_simp; done) | (go_simp; with_reducible rfl))
  case d7 => exact fun _ _ _ h => h
  try simp only [Act.put, List.setIfInBounds_toArray, List.set_cons_zero, List.set_cons_succ]
  refine wpAnyH_take (i := 7) (oi := ?o8) (v := ?v8) ?a8 (by kernel_rfl) ?b8 ?c8 ?d8 (Or.inl ⟨?w8, ?y8⟩) (by assumption) ?r8
  case a8 => (simp only [List.getElem?_toArray, List.getElem?_cons_succ, List.getElem?_cons_zero]; rfl)
  case b8 => kernel_rfl
  case c8 => kernel_rfl
  case w8 => rfl
  case y8 => (intro w hSw; (try dsimp only at hSw); first | (go_simp; done) | (go_simp; with_reducible rfl))
  case d8 => exact fun _ _ _ h => h
  try simp only [Act.put, List.setIfInBounds_toArray, List.set_cons_zero, List.set_cons_succ]
  refine wpAnyH_take (i := 8) (oi := ?o9) (v := ?v9) ?a9 (by kernel_rfl) ?b9 ?c9 ?d9 (Or.inl ⟨?w9, ?y9⟩) (by assumption) ?r9
  case a9 => (simp only [List.getElem?_toArray, List.getElem?_cons_succ, List.getElem?_cons_zero]; rfl)
  case b9 => kernel_rfl
  case c9 => kernel_rfl
  case w9 => rfl
  case y9 => (intro w hSw; (try dsimp only at hSw); first | (go_simp; done) | (go_simp; with_reducible rfl))
  case d9 => exact fun _ _ _ h => h
  try simp only [Act.put, List.setIfInBounds_toArray, List.set_cons_zero, List.set_cons_succ]
  refine wpAnyH_take (i := 9) (oi := ?o10) (v := ?v10) ?a10 (by kernel_rfl) ?b10 ?c10 ?d10 (Or.inl ⟨?w10, ?y10⟩) (by assumption) ?r10
  case a10 => (simp only [List.getElem?_toArray, List.getElem?_cons_succ, List.getElem?_cons_zero]; rfl)
  case b10 => kernel_rfl
  case c10 => kernel_rfl
  case w10 => rfl
  case y10 => (intro w hSw; (try dsimp only at hSw); first | (go_simp; done) | (go_simp; with_reducible rfl))
  case d10 => exact fun _ _ _ h => h
  try simp only [Act.put, List.setIfInBounds_toArray, List.set_cons_zero, List.set_cons_succ]
  refine wpAnyH_take (i := 10) (oi := ?o11) (v := ?v11) ?a11 (by kernel_rfl) ?b11 ?c11 ?d11 (Or.inl ⟨?w11, ?y11⟩) (by assumption) ?r11
  case a11 => (simp only [List.getElem?_toArray, List.getElem?_cons_succ, List.getElem?_cons_zero]; rfl)
  case b11 => kernel_rfl
  case c11 => kernel_rfl
  case w11 => rfl
  case y11 => (intro w hSw; (try dsimp only at hSw); first | (go_simp; done) | (go_simp; with_reducible rfl))
  case d11 => exact fun _ _ _ h => h
  try simp only [Act.put, List.setIfInBounds_toArray, List.set_cons_zero, List.set_cons_succ]
  refine wpAnyH_take (i := 11) (oi := ?o12) (v := ?v12) ?a12 (by kernel_rfl) ?b12 ?c12 ?d12 (Or.inl ⟨?w12, ?y12⟩) (by assumption) ?r12
  case a12 => (simp only [List.getElem?_toArray, List.getElem?_cons_succ, List.getElem?_cons_zero]; rfl)
  case b12 => kernel_rfl
  case c12 => kernel_rfl
  case w12 => rfl
  case y12 => (intro w hSw; (try dsimp only at hSw); first | (go_simp; done) | (go_simp; with_reducible rfl))
  case d12 => exact fun _ _ _ h => h
  try simp only [Act.put, List.setIfInBounds_toArray, List.set_cons_zero, List.set_cons_succ]
  refine wpAnyH_ready (rs := [12]) (by kernel_rfl) (by simp) ?_
  refine AllReadyH.cons rfl (fun K hK => ?_) AllReadyH.nil
  go_simp
  refine (mono_any _ _ _).mono ?_
  rintro e w2 ⟨rfl, hk2⟩
  have HK2 := Lib.hid (hkd.trans0 hk2)
  clear hk2 hHeld
  go_wp2_with fail
  refine hK.out _ _ (HX.out _ (HK2.out.kv0.k0.mono (by simp))) (fun hHeld => ?_)
  clear hK K
  try simp only [Act.put, List.setIfInBounds_toArray, List.set_cons_zero, List.set_cons_succ]
  refine wpAnyH_ready (rs := [13]) (by kernel_rfl) (by simp) ?_
  refine AllReadyH.cons rfl (fun K hK => ?_) AllReadyH.nil
  go_simp
  refine (env_with (EnvAt.keep (HK2.out.kv0.stp _ _) (fun m hm => by cases hm) HI1.out.env_) (s := ⟨.var (st.S.length + 1), []⟩) (t := vV w.heap.size) (m := .map none) ⟨?_, .inl ⟨rfl, rfl⟩⟩ x).mono ?_
  · have hva : (Ty.var (st.S.length + 1)).ap (st.S ++ [.var (st.S.length + 1)]) = .var (st.S.length + 1) := by simp [Ty.ap, Sub.look]
    show TyE _ _ ((Ty.var (st.S.length + 1)).ap (st.S ++ [.var (st.S.length + 1)])) _
    rw [hva]
    exact HK2.out.kv0.te HT1.out
  rintro e w3 ⟨eb, rfl, henv, hk3⟩
  have HK3 := Lib.hid (HK2.out.trans0 hk3)
  have HENV := Lib.hid henv
  clear hk3 henv hHeld
  go_wp2_with fail
  refine hK.out _ _ (HX.out _ (HK3.out.kv0.k0.mono (by simp))) (fun hHeld => ?_)
  clear hK K
  try simp only [Act.put, List.setIfInBounds_toArray, List.set_cons_zero, List.set_cons_succ]
  have HI3 := Lib.hid (Inv.mk (HK3.out.kv0.k0.gl HI1.out.gl R.bl (by simp)) (HK3.out.some HI1.out.gbk (by simp)) (Nat.le_trans HI1.out.hi_ HK3.out.size) (HI1.out.eng.kv HK3.out.kv0 (by simp)) HENV.out (R.wat.keep _ _ _ HI1.out.wat (HK3.out.kv0.k0.mono (by simp))) : Inv a B lo hi gb ab fuel each wst (vb ++ [w.heap.size]) ⟨st.S ++ [.var (st.S.length + 1)], st.told⟩ ((x, ⟨.var (st.S.length + 1), []⟩) :: env) (.pointer (some ⟨eb, 0, none⟩)) w3)
  have HEY3 := Lib.hid (R.expr (HK3.out.kv0.k0.mono (by simp)) HI1.out.hi_ HEY1.out)
  have h := HR.out
  cases h2 : ofE uf fuel watch y ((x, ⟨.var (st.S.length + 1), []⟩) :: env) ⟨st.S ++ [.var (st.S.length + 1)], st.told⟩ with
  | none => rw [h2] at h; cases h
  | some r2 =>
    rw [h2] at h
    have HC := Lib.hid (HY.out _ _ r2 h2 _ w3 yv _ HI3.out HEY3.out)
    have HR2 := Lib.hid h
    clear h h2
    refine wpAnyH_ready (rs := [14]) (by kernel_rfl) (by simp) ?_
    refine AllReadyH.cons rfl (fun K hK => ?_) AllReadyH.nil
    go_simp
    refine HC.out.mono ?_
    intro e w4 hp
    rcases r2 with ⟨f, l⟩ | ⟨u, st2⟩
    · obtain ⟨k, hk, rfl, rfl, hk0, hw⟩ := hp
      have h := HR2.out
      cases h
      go_wp2
      exact ⟨rfl, k, hk, rfl, rfl, (HS1.out.k0.transM (HK3.out.kv0.k0.mono (by simp))).transM hk0, hw⟩
    · obtain ⟨v2, vb2, rfl, hty2, hst2, he2, hw2⟩ := hp
      have HT2 := Lib.hid hty2
      have HS2 := Lib.hid hst2
      have HE2 := Lib.hid he2
      have HW2 := Lib.hid hw2
      have h := HR2.out
      simp only [Option.some.injEq] at h
      subst h
      obtain ⟨vt2, vp2, rfl⟩ : ∃ vt vp, v2 = .iface vt vp := by rcases hty2.shape with ⟨_, rfl⟩ | ⟨_, rfl⟩ <;> exact ⟨_, _, rfl⟩
      clear hty2 hst2 he2 hw2 HR2 HC hHeld
      go_wp2_with fail
      refine hK.out _ _ (HX.out _ ((HK3.out.kv0.k0.mono (by simp)).transM HS2.out.k0)) (fun hHeld => ?_)
      clear hK K
      try simp only [Act.put, List.setIfInBounds_toArray, List.set_cons_zero, List.set_cons_succ]
      refine wpAnyH_take (i := 15) (oi := ?o101) (v := ?v101) ?a101 (by kernel_rfl) ?b101 ?c101 ?d101 (Or.inl ⟨?w101, ?y101⟩) (by assumption) ?r101
      case a101 => (simp only [List.getElem?_toArray, List.getElem?_cons_succ, List.getElem?_cons_zero]; rfl)
      case b101 => kernel_rfl
      case c101 => kernel_rfl
      case w101 => rfl
      case y101 => (intro w hSw; (try dsimp only at hSw); first | (go_simp; done) | (go_simp; with_reducible rfl))
      case d101 => exact fun _ _ _ h => h
      try simp only [Act.put, List.setIfInBounds_toArray, List.set_cons_zero, List.set_cons_succ]
      refine wpAnyH_done (by kernel_rfl) ?_ _
      go_wp2_with fail
      refine (of_any ⟨#[102, 117, 110]⟩ (.slice (some ⟨w4.heap.size, 0, none⟩) 2 2) _ (.inr ⟨_, _, _, rfl⟩)).mono ?_
      rintro e w5 ⟨rfl, rfl⟩
      go_wp2
      go_ret
      have hst : Stp (ab :: Mw) (vb ++ [w.heap.size]) (st.S ++ [.var (st.S.length + 1)]) w1 vb2 st2.S w4 := ((HK3.out.kv0.mono (by simp)).stp _ _).trans HS2.out
      have hva : (Ty.var (st.S.length + 1)).ap (st.S ++ [.var (st.S.length + 1)]) = .var (st.S.length + 1) := by simp [Ty.ap, Sub.look]
      have htv : TyE vb2 w4 ((Ty.var (st.S.length + 1)).ap st2.S) (vV w.heap.size) := hst.ty _ _ (by rw [hva]; exact HT1.out)
      have hnew := (two_new HE2.out htv HT2.out).2 ⟨#[102, 117, 110]⟩ kFun rfl rfl
      have hkv := (two_row (v1 := vV w.heap.size) (v2 := .iface vt2 vp2) (k := ⟨#[102, 117, 110]⟩) HE2.out).1
      rw [show (w4.alloc (.cells #[vV w.heap.size, .iface vt2 vp2] 116)).heap.size = w4.heap.size + 1 by simp] at hnew
      exact ⟨cV (w4.heap.size + 1), vb2, rfl, hnew, (HS1.out.trans hst).trans ((hkv.mono (by simp)).stp vb2 st2.S), HE2.out.kv hkv (by simp), R.wat.keep _ _ _ HW2.out (hkv.k0.mono (by simp))⟩
end Go.Proofs.YtpbplpnifjbkoabGreatDoor

namespace Go.Proofs.YtpbplpnifjbkoabGreatDoor
open Go.RowKit

theorem bool_new [Inhabited Low] [Inhabited Bar] {ab : Nat} {vb : List Nat} {S : Sub} {w : World} (hE : Eng ab vb S w) : KV [] w (w.alloc (.cells #[.string ⟨#[98, 111, 111, 108]⟩, .slice none 0 0] 187)) ∧
    TyE vb (w.alloc (.cells #[.string ⟨#[98, 111, 111, 108]⟩, .slice none 0 0] 187)) (.bool) (cV w.heap.size) :=
  ⟨kv_alloc w _, w.heap.size, .con rfl, hE.fresh_ (Nat.le_refl _), block_alloc w _⟩
set_option maxRecDepth 100000 in
set_option maxHeartbeats 8000000 in
theorem part_cond [Inhabited Low] [Inhabited Bar] {a : Nat → Addr} {B lo hi gb ab fuel uf : Nat} {each : Value} {watch : Option Nat} {Mw : List Nat} {wst : List Told → World → Prop} (R : Rig a B lo hi gb ab Mw wst) {x y z : Exp}
    (hx : OfOK a B lo hi gb ab fuel uf each watch Mw wst x) (hy : OfOK a B lo hi gb ab fuel uf each watch Mw wst y) (hz : OfOK a B lo hi gb ab fuel uf each watch Mw wst z) {env : Env} {st : St} {r : Rz}
    (hr : ((ofE uf fuel watch x env st).bind fun t st => (unify uf t .bool st).bind fun _ st => (ofE uf fuel watch y env st).bind fun u st => (ofE uf fuel watch z env st).bind fun v st => (unify uf u v st).bind fun _ st => some (.ok (u, st))) = some r) {vb : List Nat} {w : World} {ev xv yv zv : Value} {b p : Nat} (I : Inv a B lo hi gb ab fuel each wst vb st env ev w)
    (hb : w.heap[b]? = some (.cells #[.int .i64 p, xv, yv, zv] 259 (0, 0))) (hlo : lo ≤ b ∧ b < hi) (hex : ExprAt w lo hi x [] [] xv) (hey : ExprAt w lo hi y [] [] yv) (hez : ExprAt w lo hi z [] [] zv) :
    Calls Tryz.prog 96 #[.pointer (some ⟨gb, 0, none⟩), ifp 257 b, ev] w (EPost a ab (ab :: Mw) wst vb st.S w r) := by
  have t1 := psIfNum b
  have t2 := psIfName b
  have t3 := psIfFun b
  have t4 := psIfApp b
  have t5 := psIfPair b
  have t6 := psIf b
  have c1 := cell_of_block hb 1
  simp at c1
  have HX := Lib.hid hx
  have HY := Lib.hid hy
  have HZ := Lib.hid hz
  have HI := Lib.hid I
  have HB := Lib.hid hb
  have HEX := Lib.hid hex
  have HEY := Lib.hid hey
  have HEZ := Lib.hid hez
  have HR1 := Lib.hid hr
  clear hx hy hz I hb hex hey hez hr
  go_enter Tryz.func96, Tryz.ntmps96
  go_wp2_with fail
  cases q1 : ofE uf fuel watch x env st with
  | none => have h := HR1.out; rw [q1] at h; cases h
  | some r1 =>
    have h := HR1.out
    rw [q1] at h
    have HC1 := Lib.hid (HX.out env st r1 q1 vb w xv ev HI.out HEX.out)
    have HQ1 := Lib.hid h
    clear h q1 HR1
    go_wp2_with fail
    refine HC1.out.mono ?_
    intro e w1 hp
    rcases r1 with ⟨f, l⟩ | ⟨t1, st1⟩
    · obtain ⟨k, hk, rfl, rfl, hk0, hw⟩ := hp
      have h := HQ1.out
      cases h
      go_wp2
      exact ⟨rfl, k, hk, rfl, rfl, hk0, hw⟩
    · obtain ⟨v1, vb1, rfl, hty1, hst1, he1, hw1⟩ := hp
      have HT1 := Lib.hid hty1
      have HS1 := Lib.hid hst1
      have HP1 := Lib.hid hst1
      have HI1 := Lib.hid (HI.out.step R hst1 he1 hw1)
      have h := HQ1.out
      simp only [M.bind] at h
      obtain ⟨vt1, vp1, rfl⟩ : ∃ vt vp, v1 = .iface vt vp := by rcases hty1.shape with ⟨_, rfl⟩ | ⟨_, rfl⟩ <;> exact ⟨_, _, rfl⟩
      clear hty1 hst1 he1 hw1 HQ1 HC1
      go_wp2_with fail
      refine (of_any ⟨#[98, 111, 111, 108]⟩ (.slice none 0 0) _ (.inl rfl)).mono ?_
      rintro e w4 ⟨rfl, hw4⟩
      have hbn := bool_new HI1.out.eng
      rw [hw4] at hbn
      obtain ⟨hkv, hbb⟩ := hbn
      have htt := hkv.te HT1.out
      have HS4 := Lib.hid (HS1.out.trans ((hkv.mono (by simp)).stp vb1 st1.S))
      have HI4 := Lib.hid (HI1.out.step R (st' := st1) ((hkv.mono (by simp)).stp vb1 st1.S) (HI1.out.eng.kv hkv (by simp)) (R.wat.keep _ _ _ HI1.out.wat (hkv.k0.mono (by simp))))
      clear hkv hw4
      cases u4 : unF uf st1.S t1 .bool with
      | none => simp [unify, u4] at h
      | some rr4 =>
        have HEQ4 := Lib.hid (equal_any (g := .pointer (some ⟨gb, 0, none⟩)) HI4.out.gl R.bl HI4.out.eng htt (show TyE vb1 w4 (Ty.ap st1.S .bool) _ from hbb) u4)
        cases rr4 with
        | none =>
          simp only [unify, u4, Option.some.injEq] at h
          subst h
          clear u4
          go_wp2_with fail
          refine HEQ4.out.mono ?_
          rintro e w5 ⟨rfl, hk0⟩
          go_wp2
          exact ⟨rfl, 3, by omega, rfl, rfl, HS4.out.k0.transM (hk0.mono (by simp)), R.wat.keep _ _ _ HI4.out.wat (hk0.mono (by simp))⟩
        | some S4 =>
          simp only [unify, u4] at h
          have HH4 := Lib.hid h
          clear u4 h

          go_wp2_with fail
          refine HEQ4.out.mono ?_
          rintro e w5 ⟨rfl, hste, hee⟩
          have HE4 := Lib.hid hste
          have HSE4 := Lib.hid (HS4.out.trans (hste.mono (by simp)))
          have HIE4 := Lib.hid (HI4.out.step R (st' := ⟨S4, st1.told⟩) (hste.mono (by simp)) hee (R.wat.keep _ _ _ HI4.out.wat (hste.k0.mono (by simp))))
          clear hste hee
          have HEY5 := Lib.hid (R.expr HSE4.out.k0 HI.out.hi_ HEY.out)
          have c2 := (cell_of_block (R.blk HSE4.out.k0 HI.out.hi_ hlo HB.out) 2)
          simp at c2
          have h := HH4.out
          have HR2 := Lib.hid h
          clear h
          cases q2 : ofE uf fuel watch y env ⟨S4, st1.told⟩ with
          | none => have h := HR2.out; rw [q2] at h; cases h
          | some r2 =>
            have h := HR2.out
            rw [q2] at h
            have HC2 := Lib.hid (HY.out env ⟨S4, st1.told⟩ r2 q2 vb1 w5 yv ev HIE4.out HEY5.out)
            have HQ2 := Lib.hid h
            clear h q2 HR2
            go_wp2_with fail
            refine HC2.out.mono ?_
            intro e w2 hp
            rcases r2 with ⟨f, l⟩ | ⟨t2, st2⟩
            · obtain ⟨k, hk, rfl, rfl, hk0, hw⟩ := hp
              have h := HQ2.out
              cases h
              go_wp2
              exact ⟨rfl, k, hk, rfl, rfl, HSE4.out.k0.transM (hk0), hw⟩
            · obtain ⟨v2, vb2, rfl, hty2, hst2, he2, hw2⟩ := hp
              have HT2 := Lib.hid hty2
              have HS2 := Lib.hid (HSE4.out.trans hst2)
              have HP2 := Lib.hid hst2
              have HI2 := Lib.hid (HIE4.out.step R hst2 he2 hw2)
              have h := HQ2.out
              simp only at h
              obtain ⟨vt2, vp2, rfl⟩ : ∃ vt vp, v2 = .iface vt vp := by rcases hty2.shape with ⟨_, rfl⟩ | ⟨_, rfl⟩ <;> exact ⟨_, _, rfl⟩
              clear hty2 hst2 he2 hw2 HQ2 HC2
              have HEZ2 := Lib.hid (R.expr (HS2.out.k0) HI.out.hi_ HEZ.out)
              have c3 := (cell_of_block (R.blk HS2.out.k0 HI.out.hi_ hlo HB.out) 3)
              simp at c3
              have HR3 := Lib.hid h
              clear h
              cases q3 : ofE uf fuel watch z env st2 with
              | none => have h := HR3.out; rw [q3] at h; cases h
              | some r3 =>
                have h := HR3.out
                rw [q3] at h
                have HC3 := Lib.hid (HZ.out env st2 r3 q3 vb2 w2 zv ev HI2.out HEZ2.out)
                have HQ3 := Lib.hid h
                clear h q3 HR3
                go_wp2_with fail
                refine HC3.out.mono ?_
                intro e w3 hp
                rcases r3 with ⟨f, l⟩ | ⟨t3, st3⟩
                · obtain ⟨k, hk, rfl, rfl, hk0, hw⟩ := hp
                  have h := HQ3.out
                  cases h
                  go_wp2
                  exact ⟨rfl, k, hk, rfl, rfl, HS2.out.k0.transM (hk0), hw⟩
                · obtain ⟨v3, vb3, rfl, hty3, hst3, he3, hw3⟩ := hp
                  have HT3 := Lib.hid hty3
                  have HS3 := Lib.hid (HS2.out.trans hst3)
                  have HP3 := Lib.hid hst3
                  have HI3 := Lib.hid (HI2.out.step R hst3 he3 hw3)
                  have h := HQ3.out
                  simp only at h
                  obtain ⟨vt3, vp3, rfl⟩ : ∃ vt vp, v3 = .iface vt vp := by rcases hty3.shape with ⟨_, rfl⟩ | ⟨_, rfl⟩ <;> exact ⟨_, _, rfl⟩
                  clear hty3 hst3 he3 hw3 HQ3 HC3
                  cases u5 : unF uf st3.S t2 t3 with
                  | none => simp [u5] at h
                  | some rr5 =>
                    have HEQ5 := Lib.hid (equal_any (g := .pointer (some ⟨gb, 0, none⟩)) HI3.out.gl R.bl HI3.out.eng (HP3.out.ty _ _ HT2.out) HT3.out u5)
                    cases rr5 with
                    | none =>
                      simp only [u5, Option.some.injEq] at h
                      subst h
                      clear u5
                      go_wp2_with fail
                      refine HEQ5.out.mono ?_
                      rintro e w6 ⟨rfl, hk0⟩
                      go_wp2
                      exact ⟨rfl, 3, by omega, rfl, rfl, HS3.out.k0.transM (hk0.mono (by simp)), R.wat.keep _ _ _ HI3.out.wat (hk0.mono (by simp))⟩
                    | some S6 =>
                      simp only [u5] at h
                      have HH5 := Lib.hid h
                      clear u5 h

                      go_wp2_with fail
                      refine HEQ5.out.mono ?_
                      rintro e w6 ⟨rfl, hste, hee⟩
                      have HE5 := Lib.hid hste
                      have HSE5 := Lib.hid (HS3.out.trans (hste.mono (by simp)))
                      have HIE5 := Lib.hid (HI3.out.step R (st' := ⟨S6, st3.told⟩) (hste.mono (by simp)) hee (R.wat.keep _ _ _ HI3.out.wat (hste.k0.mono (by simp))))
                      clear hste hee
                      have h := HH5.out
                      simp only [Option.some.injEq] at h
                      subst h
                      go_wp2
                      go_ret
                      exact ⟨.iface vt2 vp2, vb3, rfl, HE5.out.ty _ _ (HP3.out.ty _ _ HT2.out), HSE5.out, HIE5.out.eng, HIE5.out.wat⟩
end Go.Proofs.YtpbplpnifjbkoabGreatDoor

namespace Go.Proofs.YtpbplpnifjbkoabGreatDoor
open Go.RowKit

set_option maxRecDepth 100000 in
set_option maxHeartbeats 4000000 in
theorem part_let [Inhabited Low] [Inhabited Bar] {a : Nat → Addr} {B lo hi gb ab fuel uf : Nat} {each : Value} {watch : Option Nat} {Mw : List Nat} {wst : List Told → World → Prop} (R : Rig a B lo hi gb ab Mw wst) {x : Bytes} {y z : Exp}
    (hy : OfOK a B lo hi gb ab fuel uf each watch Mw wst y) (hz : OfOK a B lo hi gb ab fuel uf each watch Mw wst z) {env : Env} {st : St} {r : Rz}
    (hr : ((ofE uf fuel watch y env st).bind fun t st => if tooGreat st.S env t then none else ofE uf fuel watch z ((x, gen st.S env t) :: env) st) = some r) {vb : List Nat} {w : World} {ev yv zv : Value} {b p : Nat} (I : Inv a B lo hi gb ab fuel each wst vb st env ev w)
    (hb : w.heap[b]? = some (.cells #[.int .i64 p, .string (bs x), yv, zv] 217 (0, 0))) (hlo : lo ≤ b ∧ b < hi) (hey : ExprAt w lo hi y [] [] yv) (hez : ExprAt w lo hi z [] [] zv) :
    Calls Tryz.prog 96 #[.pointer (some ⟨gb, 0, none⟩), ifp 215 b, ev] w (EPost a ab (ab :: Mw) wst vb st.S w r) := by
  have t1 := psLetNum b
  have t2 := psLetName b
  have t3 := psLetFun b
  have t4 := psLetApp b
  have t5 := psLetPair b
  have t6 := psLetIf b
  have t7 := psLet b
  have c0 := cell_of_block hb 2
  simp at c0
  have HY := Lib.hid hy
  have HZ := Lib.hid hz
  have HI := Lib.hid I
  have HB := Lib.hid hb
  have HEY := Lib.hid hey
  have HEZ := Lib.hid hez
  have HR := Lib.hid hr
  clear hy hz I hb hey hez hr
  go_enter Tryz.func96, Tryz.ntmps96
  go_wp2_with fail
  cases q1 : ofE uf fuel watch y env st with
  | none => have h := HR.out; rw [q1] at h; cases h
  | some r1 =>
    have h := HR.out
    rw [q1] at h
    have HC1 := Lib.hid (HY.out env st r1 q1 vb w yv ev HI.out HEY.out)
    have HQ1 := Lib.hid h
    clear h q1 HR
    go_wp2_with fail
    refine HC1.out.mono ?_
    intro e w1 hp
    rcases r1 with ⟨f, l⟩ | ⟨t, st1⟩
    · obtain ⟨k, hk, rfl, rfl, hk0, hw⟩ := hp
      have h := HQ1.out
      cases h
      go_wp2
      exact ⟨rfl, k, hk, rfl, rfl, hk0, hw⟩
    · obtain ⟨v1, vb1, rfl, hty1, hst1, he1, hw1⟩ := hp
      have HT1 := Lib.hid hty1
      have HS1 := Lib.hid hst1
      have HI1 := Lib.hid (HI.out.step R hst1 he1 hw1)
      have h := HQ1.out
      simp only [M.bind] at h
      have hsm : tooGreat st1.S env t = false := by
        by_cases hg : tooGreat st1.S env t = true
        · rw [if_pos hg] at h; cases h
        · exact eq_false_of_ne_true hg
      rw [if_neg (by rw [hsm]; simp)] at h
      have hsz : envSize st1.S env + (t.ap st1.S).size ≤ 100000 := by unfold tooGreat at hsm; simpa using hsm
      have HR1 := Lib.hid h
      have HSZ := Lib.hid hsz
      have HEZ1 := Lib.hid (R.expr hst1.k0 HI.out.hi_ HEZ.out)
      have HB1 := Lib.hid (R.blk hst1.k0 HI.out.hi_ hlo HB.out)
      obtain ⟨vt1, vp1, rfl⟩ : ∃ vt vp, v1 = .iface vt vp := by rcases hty1.shape with ⟨_, rfl⟩ | ⟨_, rfl⟩ <;> exact ⟨_, _, rfl⟩
      clear hty1 hst1 he1 hw1 HQ1 HC1 h hsm hsz c0
      go_wp2_with fail
      have HX := Lib.hid (fun (W : World) (hW : K0 (ab :: Mw) w1 W) => (⟨⟨(cell_of_block (R.blk hW HI1.out.hi_ hlo HB1.out) 1).trans (by simp), (cell_of_block (R.blk hW HI1.out.hi_ hlo HB1.out) 3).trans (by simp)⟩, hW⟩ : (W.cell? ⟨b, 1, none⟩ = some (.string (bs x)) ∧ W.cell? ⟨b, 3, none⟩ = some zv) ∧ K0 (ab :: Mw) w1 W))
      have hkd : KV [] w1 w1.drew := (Keeps.refl [] w1).drew.kv0
      refine wp_region_held_drew (S := (fun W => (W.cell? ⟨b, 1, none⟩ = some (.string (bs x)) ∧ W.cell? ⟨b, 3, none⟩ = some zv) ∧ K0 (ab :: Mw) w1 W)) (by kernel_rfl) (HX.out _ (hkd.k0.mono (by simp))) (fun hHeld => ?_)
      refine wpAnyH_take (i := 0) (oi := ?o1) (v := ?v1) ?a1 (by kernel_rfl) ?b1 ?c1 ?d1 (Or.inl ⟨?w1, ?y1⟩) (by assumption) ?r1
      case a1 => (simp only [List.getElem?_toArray, List.getElem?_cons_zero]; rfl)
      case b1 => kernel_rfl
      case c1 => kernel_rfl
      case w1 => rfl
      case y1 => (intro w hSw; (try dsimp only at hSw); first | (go_simp; done) | (go_simp; with_reducible rfl))
      case d1 => exact fun _ _ _ h => h
      try simp only [Act.put, List.setIfInBounds_toArray, List.set_cons_zero, List.set_cons_succ]
      refine wpAnyH_take (i := 1) (oi := ?o2) (v := ?v2) ?a2 (by kernel_rfl) ?b2 ?c2 ?d2 (Or.inl ⟨?w2, ?y2⟩) (by assumption) ?r2
      case a2 => (simp only [List.getElem?_toArray, List.getElem?_cons_succ, List.getElem?_cons_zero]; rfl)
      case b2 => kernel_rfl
      case c2 => kernel_rfl
      case w2 => rfl
      case y2 => (intro w hSw; (try dsimp only at hSw); first | (go_simp; done) | (go_simp; with_reducible rfl))
      case d2 => exact fun _ _ _ h => h
      try simp only [Act.put, List.setIfInBounds_toArray, List.set_cons_zero, List.set_cons_succ]
      refine wpAnyH_take (i := 2) (oi := ?o3) (v := ?v3) ?a3 (by kernel_rfl) ?b3 ?c3 ?d3 (Or.inl ⟨?w3, ?y3⟩) (by assumption) ?r3
      case a3 => (simp only [List.getElem?_toArray, List.getElem?_cons_succ, List.getElem?_cons_zero]; rfl)
      case b3 => kernel_rfl
      case c3 => kernel_rfl
      case w3 => rfl
      case y3 => (intro w hSw; (try dsimp only at hSw); first | (go_simp; done) | (go_simp; with_reducible rfl))
      case d3 => exact fun _ _ _ h => h
      try simp only [Act.put, List.setIfInBounds_toArray, List.set_cons_zero, List.set_cons_succ]
      refine wpAnyH_take (i := 3) (oi := ?o4) (v := ?v4) ?a4 (by kernel_rfl) ?b4 ?c4 ?d4 (Or.inl ⟨?w4, ?y4⟩) (by assumption) ?r4
      case a4 => (simp only [List.getElem?_toArray, List.getElem?_cons_succ, List.getElem?_cons_zero]; rfl)
      case b4 => kernel_rfl
      case c4 => kernel_rfl
      case w4 => rfl
      case y4 => (intro w hSw; (try dsimp only at hSw); first | (go_simp; done) | (go_simp; with_reducible rfl))
      case d4 => exact fun _ _ _ h => h
      try simp only [Act.put, List.setIfInBounds_toArray, List.set_cons_zero, List.set_cons_succ]
      refine wpAnyH_take (i := 4) (oi := ?o5) (v := ?v5) ?a5 (by kernel_rfl) ?b5 ?c5 ?d5 (Or.inl ⟨?w5, ?y5⟩) (by assumption) ?r5
      case a5 => (simp only [List.getElem?_toArray, List.getElem?_cons_succ, List.getElem?_cons_zero]; rfl)
      case b5 => kernel_rfl
      case c5 => kernel_rfl
      case w5 => rfl
      case y5 => (intro w hSw; (try dsimp only at hSw); first | (go_simp; done) | (go_simp; with_reducible rfl))
      case d5 => exact fun _ _ _ h => h
      try simp only [Act.put, List.setIfInBounds_toArray, List.set_cons_zero, List.set_cons_succ]
      refine wpAnyH_take (i := 5) (oi := ?o6) (v := ?v6) ?a6 (by kernel_rfl) ?b6 ?c6 ?d6 (Or.inl ⟨?w6, ?y6⟩) (by assumption) ?r6
      case a6 => (simp only [List.getElem?_toArray, List.getElem?_cons_succ, List.getElem?_cons_zero]; rfl)
      case b6 => kernel_rfl
      case c6 => kernel_rfl
      case w6 => rfl
      case y6 => (intro w hSw; (try dsimp only at hSw); first | (go_simp; done) | (go_simp; with_reducible rfl))
      case d6 => exact fun _ _ _ h => h
      try simp only [Act.put, List.setIfInBounds_toArray, List.set_cons_zero, List.set_cons_succ]
      refine wpAnyH_take (i := 6) (oi := ?o7) (v := ?v7) ?a7 (by kernel_rfl) ?b7 ?c7 ?d7 (Or.inl ⟨?w7, ?y7⟩) (by assumption) ?r7
      case a7 => (simp only [List.getElem?_toArray, List.getElem?_cons_succ, List.getElem?_cons_zero]; rfl)
      case b7 => kernel_rfl
      case c7 => kernel_rfl
      case w7 => rfl
      case y7 => (intro w hSw; (try dsimp only at hSw); first | (go_simp; done) | (go_simp; with_reducible rfl))
      case d7 => exact fun _ _ _ h => h
      try simp only [Act.put, List.setIfInBounds_toArray, List.set_cons_zero, List.set_cons_succ]
      refine wpAnyH_take (i := 7) (oi := ?o8) (v := ?v8) ?a8 (by kernel_rfl) ?b8 ?c8 ?d8 (Or.inl ⟨?w8, ?y8⟩) (by assumption) ?r8
      case a8 => (simp only [List.getElem?_toArray, List.getElem?_cons_succ, List.getElem?_cons_zero]; rfl)
      case b8 => kernel_rfl
      case c8 => kernel_rfl
      case w8 => rfl
      case y8 => (intro w hSw; (try dsimp only at hSw); first | (go_simp; done) | (go_simp; with_reducible rfl))
      case d8 => exact fun _ _ _ h => h
      try simp only [Act.put, List.setIfInBounds_toArray, List.set_cons_zero, List.set_cons_succ]
      refine wpAnyH_take (i := 8) (oi := ?o9) (v := ?v9) ?a9 (by kernel_rfl) ?b9 ?c9 ?d9 (Or.inl ⟨?w9, ?y9⟩) (by assumption) ?r9
      case a9 => (simp only [List.getElem?_toArray, List.getElem?_cons_succ, List.getElem?_cons_zero]; rfl)
      case b9 => kernel_rfl
      case c9 => kernel_rfl
      case w9 => rfl
      case y9 => (intro w hSw; (try dsimp only at hSw); first | (go_simp; done) | (go_simp; with_reducible rfl))
      case d9 => exact fun _ _ _ h => h
      try simp only [Act.put, List.setIfInBounds_toArray, List.set_cons_zero, List.set_cons_succ]
      refine wpAnyH_take (i := 9) (oi := ?o10) (v := ?v10) ?a10 (by kernel_rfl) ?b10 ?c10 ?d10 (Or.inl ⟨?w10, ?y10⟩) (by assumption) ?r10
      case a10 => (simp only [List.getElem?_toArray, List.getElem?_cons_succ, List.getElem?_cons_zero]; rfl)
      case b10 => kernel_rfl
      case c10 => kernel_rfl
      case w10 => rfl
      case y10 => (intro w hSw; (try dsimp only at hSw); first | (go_simp; done) | (go_simp; with_reducible rfl))
      case d10 => exact fun _ _ _ h => h
      try simp only [Act.put, List.setIfInBounds_toArray, List.set_cons_zero, List.set_cons_succ]
      refine wpAnyH_take (i := 10) (oi := ?o11) (v := ?v11) ?a11 (by kernel_rfl) ?b11 ?c11 ?d11 (Or.inl ⟨?w11, ?y11⟩) (by assumption) ?r11
      case a11 => (simp only [List.getElem?_toArray, List.getElem?_cons_succ, List.getElem?_cons_zero]; rfl)
      case b11 => kernel_rfl
      case c11 => kernel_rfl
      case w11 => rfl
      case y11 => (intro w hSw; (try dsimp only at hSw); first | (go_simp; done) | (go_simp; with_reducible rfl))
      case d11 => exact fun _ _ _ h => h
      try simp only [Act.put, List.setIfInBounds_toArray, List.set_cons_zero, List.set_cons_succ]
      refine wpAnyH_take (i := 11) (oi := ?o12) (v := ?v12) ?a12 (by kernel_rfl) ?b12 ?c12 ?d12 (Or.inl ⟨?w12, ?y12⟩) (by assumption) ?r12
      case a12 => (simp only [List.getElem?_toArray, List.getElem?_cons_succ, List.getElem?_cons_zero]; rfl)
      case b12 => kernel_rfl
      case c12 => kernel_rfl
      case w12 => rfl
      case y12 => (intro w hSw; (try dsimp only at hSw); first | (go_simp; done) | (go_simp; with_reducible rfl))
      case d12 => exact fun _ _ _ h => h
      try simp only [Act.put, List.setIfInBounds_toArray, List.set_cons_zero, List.set_cons_succ]
      refine wpAnyH_ready (rs := [12]) (by kernel_rfl) (by simp) ?_
      refine AllReadyH.cons rfl (fun K hK => ?_) AllReadyH.nil
      go_simp
      refine (close_any (HI1.out.eng.kv hkd (by simp)) (EnvAt.keep (hkd.stp _ _) (fun m hm => by cases hm) HI1.out.env_) (hkd.te HT1.out) HSZ.out).mono ?_
      rintro e w2 ⟨m, rfl, hset, hk2⟩
      have HK2 := Lib.hid (hkd.trans0 hk2)
      have HSET := Lib.hid hset
      clear hk2 hset hHeld
      go_wp2_with fail
      refine hK.out _ _ (HX.out _ (HK2.out.k0.mono (by simp))) (fun hHeld => ?_)
      clear hK K
      try simp only [Act.put, List.setIfInBounds_toArray, List.set_cons_zero, List.set_cons_succ]
      refine wpAnyH_ready (rs := [13]) (by kernel_rfl) (by simp) ?_
      refine AllReadyH.cons rfl (fun K hK => ?_) AllReadyH.nil
      go_simp
      refine (env_with (EnvAt.keep (HK2.out.stp _ _) (fun m hm => by cases hm) HI1.out.env_) (s := gen st1.S env t) (t := .iface vt1 vp1) (m := m) ⟨?_, HSET.out⟩ x).mono ?_
      · show TyE _ _ ((t.ap st1.S).ap st1.S) _
        rw [ap_fix HI1.out.eng.fix]
        exact HK2.out.te HT1.out
      rintro e w3 ⟨eb, rfl, henv, hk3⟩
      have HK3 := Lib.hid (HK2.out.trans0 hk3.kv0)
      have HENV := Lib.hid henv
      clear hk3 henv hHeld
      go_wp2_with fail
      refine hK.out _ _ (HX.out _ (HK3.out.k0.mono (by simp))) (fun hHeld => ?_)
      clear hK K
      try simp only [Act.put, List.setIfInBounds_toArray, List.set_cons_zero, List.set_cons_succ]
      have HI3 := Lib.hid (Inv.mk (HK3.out.k0.gl HI1.out.gl R.bl (by simp)) (HK3.out.blk HI1.out.gbk (by simp) (by simp)) (Nat.le_trans HI1.out.hi_ HK3.out.size) (HI1.out.eng.kv HK3.out (by simp)) HENV.out (R.wat.keep _ _ _ HI1.out.wat (HK3.out.k0.mono (by simp))) : Inv a B lo hi gb ab fuel each wst vb1 st1 ((x, gen st1.S env t) :: env) (.pointer (some ⟨eb, 0, none⟩)) w3)
      have HEZ3 := Lib.hid (R.expr (HK3.out.k0.mono (by simp)) HI1.out.hi_ HEZ1.out)
      have HC := Lib.hid (HZ.out _ _ r HR1.out _ w3 zv _ HI3.out HEZ3.out)
      refine wpAnyH_ready (rs := [14]) (by kernel_rfl) (by simp) ?_
      refine AllReadyH.cons rfl (fun K hK => ?_) AllReadyH.nil
      go_simp
      refine HC.out.mono ?_
      intro e w4 hp
      rcases r with ⟨f, l⟩ | ⟨u, st2⟩
      · obtain ⟨k, hk, rfl, rfl, hk0, hw⟩ := hp
        go_wp2
        exact ⟨rfl, k, hk, rfl, rfl, (HS1.out.k0.transM (HK3.out.k0.mono (by simp))).transM hk0, hw⟩
      · obtain ⟨v2, vb2, rfl, hty2, hst2, he2, hw2⟩ := hp
        have HT2 := Lib.hid hty2
        have HS2 := Lib.hid hst2
        have HE2 := Lib.hid he2
        have HW2 := Lib.hid hw2
        obtain ⟨vt2, vp2, rfl⟩ : ∃ vt vp, v2 = .iface vt vp := by rcases hty2.shape with ⟨_, rfl⟩ | ⟨_, rfl⟩ <;> exact ⟨_, _, rfl⟩
        clear hty2 hst2 he2 hw2 HC hHeld
        go_wp2_with fail
        refine hK.out _ _ (HX.out _ ((HK3.out.k0.mono (by simp)).transM HS2.out.k0)) (fun hHeld => ?_)
        clear hK K
        try simp only [Act.put, List.setIfInBounds_toArray, List.set_cons_zero, List.set_cons_succ]
        refine wpAnyH_take (i := 15) (oi := ?o13) (v := ?v13) ?a13 (by kernel_rfl) ?b13 ?c13 ?d13 (Or.inl ⟨?w13, ?y13⟩) (by assumption) ?r13
        case a13 => (simp only [List.getElem?_toArray, List.getElem?_cons_succ, List.getElem?_cons_zero]; rfl)
        case b13 => kernel_rfl
        case c13 => kernel_rfl
        case w13 => rfl
        case y13 => (intro w hSw; (try dsimp only at hSw); first | (go_simp; done) | (go_simp; with_reducible rfl))
        case d13 => exact fun _ _ _ h => h
        try simp only [Act.put, List.setIfInBounds_toArray, List.set_cons_zero, List.set_cons_succ]
        refine wpAnyH_done (by kernel_rfl) ?_ _
        go_wp2_with fail
        go_ret
        exact ⟨_, vb2, rfl, HT2.out, (HS1.out.trans ((HK3.out.mono (by simp)).stp _ _)).trans HS2.out, HE2.out, HW2.out⟩
end Go.Proofs.YtpbplpnifjbkoabGreatDoor

namespace Go.Proofs.YtpbplpnifjbkoabGreatDoor
open Go.RowKit

theorem bind_assocM {α β γ : Type} (m : M α) (f : α → St → M β) (g : β → St → M γ) : (m.bind f).bind g = m.bind fun a s => (f a s).bind g := by
  cases m with
  | none => rfl
  | some r =>
    cases r with
    | error p => rfl
    | ok q => rfl
theorem bind_sized {m : M Ty} {r : Rz} (h : m.bind sized = some r) : ∃ r0, m = some r0 ∧ r = sizedR r0 := by
  cases m with
  | none => cases h
  | some r0 =>
    refine ⟨r0, rfl, ?_⟩
    rcases r0 with p | ⟨t, s⟩
    · cases h; rfl
    · simp only [M.bind, sized] at h
      simp only [sizedR]
      split at h <;> (cases h; rename_i hc; first | rw [if_pos hc] | rw [if_neg hc])
section
variable [Inhabited Low] [Inhabited Bar] {a : Nat → Addr} {B lo hi gb ab fuel uf : Nat} {each : Value} {watch : Option Nat} {Mw : List Nat} {wst : List Told → World → Prop}
theorem of_num (R : Rig a B lo hi gb ab Mw wst) (p : Nat) (s : Bytes) : OfOK a B lo hi gb ab fuel uf each watch Mw wst (.num p s) := by
  intro env st r hr vb w xv ev I hx
  obtain ⟨_, _, b, _, _, rfl, _⟩ := hx
  obtain ⟨r0, h0, rfl⟩ := bind_sized (m := some (.ok (.int, st))) (r := r) (by simpa only [ofE, M.bind] using hr)
  cases h0
  exact iof_any I.gl R.bl R.mb R.wat (part_num I.eng I.wat R.wat)
theorem of_pair (R : Rig a B lo hi gb ab Mw wst) {p : Nat} {x y : Exp} (hx : OfOK a B lo hi gb ab fuel uf each watch Mw wst x) (hy : OfOK a B lo hi gb ab fuel uf each watch Mw wst y) : OfOK a B lo hi gb ab fuel uf each watch Mw wst (.pair p x y) := by
  intro env st r hr vb w xv ev I he
  obtain ⟨_, _, b, vf, va, h1, h2, rfl, hb, e1, e2⟩ := he
  obtain ⟨r0, h0, rfl⟩ := bind_sized (m := (ofE uf fuel watch x env st).bind fun t st => (ofE uf fuel watch y env st).bind fun u st => some (.ok (.pair t u, st))) (r := r) (by rw [← hr]; simp only [ofE, bind_assocM]; rfl)
  exact iof_any I.gl R.bl R.mb R.wat (part_pair R hx hy h0 I hb ⟨h1, h2⟩ e1 e2)
theorem of_app (R : Rig a B lo hi gb ab Mw wst) {p : Nat} {x y : Exp} (hx : OfOK a B lo hi gb ab fuel uf each watch Mw wst x) (hy : OfOK a B lo hi gb ab fuel uf each watch Mw wst y) : OfOK a B lo hi gb ab fuel uf each watch Mw wst (.app p x y) := by
  intro env st r hr vb w xv ev I he
  obtain ⟨_, _, b, vf, va, h1, h2, rfl, hb, e1, e2⟩ := he
  obtain ⟨r0, h0, rfl⟩ := bind_sized (m := (ofE uf fuel watch x env st).bind fun t st => (ofE uf fuel watch y env st).bind fun u st => (newVar st).bind fun v st => (unify uf t (.arr u v) st).bind fun _ st => some (.ok (v, st))) (r := r) (by rw [← hr]; simp only [ofE, bind_assocM]; rfl)
  exact iof_any I.gl R.bl R.mb R.wat (part_app R hx hy h0 I hb ⟨h1, h2⟩ e1 e2)
theorem of_lam (R : Rig a B lo hi gb ab Mw wst) {p : Nat} {x : Bytes} {y : Exp} (hy : OfOK a B lo hi gb ab fuel uf each watch Mw wst y) : OfOK a B lo hi gb ab fuel uf each watch Mw wst (.lam p x y) := by
  intro env st r hr vb w xv ev I he
  obtain ⟨_, _, b, ve, h1, h2, rfl, hb, e1⟩ := he
  obtain ⟨r0, h0, rfl⟩ := bind_sized (m := (newVar st).bind fun v st => (ofE uf fuel watch y ((x, ⟨v, []⟩) :: env) st).bind fun u st => some (.ok (.arr v u, st))) (r := r) (by rw [← hr]; simp only [ofE, bind_assocM]; rfl)
  exact iof_any I.gl R.bl R.mb R.wat (part_lam R hy h0 I hb ⟨h1, h2⟩ e1)
theorem of_cond (R : Rig a B lo hi gb ab Mw wst) {p : Nat} {x y z : Exp} (hx : OfOK a B lo hi gb ab fuel uf each watch Mw wst x) (hy : OfOK a B lo hi gb ab fuel uf each watch Mw wst y) (hz : OfOK a B lo hi gb ab fuel uf each watch Mw wst z) : OfOK a B lo hi gb ab fuel uf each watch Mw wst (.cond p x y z) := by
  intro env st r hr vb w xv ev I he
  obtain ⟨_, _, b, vc, vf, va, h1, h2, rfl, hb, e1, e2, e3⟩ := he
  obtain ⟨r0, h0, rfl⟩ := bind_sized (m := (ofE uf fuel watch x env st).bind fun t st => (unify uf t .bool st).bind fun _ st => (ofE uf fuel watch y env st).bind fun u st => (ofE uf fuel watch z env st).bind fun v st => (unify uf u v st).bind fun _ st => some (.ok (u, st))) (r := r) (by rw [← hr]; simp only [ofE, bind_assocM]; rfl)
  exact iof_any I.gl R.bl R.mb R.wat (part_cond R hx hy hz h0 I hb ⟨h1, h2⟩ e1 e2 e3)
theorem of_let (R : Rig a B lo hi gb ab Mw wst) {p : Nat} {x : Bytes} {y z : Exp} (hy : OfOK a B lo hi gb ab fuel uf each watch Mw wst y) (hz : OfOK a B lo hi gb ab fuel uf each watch Mw wst z) : OfOK a B lo hi gb ab fuel uf each watch Mw wst (.letin p x y z) := by
  intro env st r hr vb w xv ev I he
  obtain ⟨_, _, b, vf, va, h1, h2, rfl, hb, e1, e2⟩ := he
  obtain ⟨r0, h0, rfl⟩ := bind_sized (m := (ofE uf fuel watch y env st).bind fun t st => if tooGreat st.S env t then none else ofE uf fuel watch z ((x, gen st.S env t) :: env) st) (r := r) (by
    rw [← hr]
    simp only [ofE, bind_assocM]
    congr 1
    funext t st
    split <;> rfl)
  exact iof_any I.gl R.bl R.mb R.wat (part_let R hy hz h0 I hb ⟨h1, h2⟩ e1 e2)
end
end Go.Proofs.YtpbplpnifjbkoabGreatDoor

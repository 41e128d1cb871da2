/-
  engine.rec without a watcher, by contract.
-/
import Derived.Test.YtpbplpnifjbkoabGreatDoorGrp
import Derived.Test.YtpbplpnifjbkoabGreatDoorShw
import Derived.Deep.RegionLaw
import Derived.Deep.AppendLies
namespace Go.Proofs.YtpbplpnifjbkoabGreatDoor
open Go.RowKit

theorem allAt_len {w : World} {lo hi : Nat} : ∀ {es : List Exp} {vs : List Value}, AllAt w lo hi es vs → vs.length = es.length
  | [], vs, h => by rw [show vs = [] from h]; rfl
  | a :: r, vs, h => by
    obtain ⟨va, vs', rfl, _, h2⟩ := h
    simp [allAt_len h2]
theorem rowAt_shape {w : World} {lo hi : Nat} {E : TypeId} {v : Value} {xs : List Value} (h : RowAt w lo hi E v xs) : ∃ ad cap, v = .slice ad xs.length cap ∧ ∀ (j : Nat) x, xs[j]? = some x → ∃ g cs, ad = some ⟨g, 0, none⟩ ∧ lo ≤ g ∧ g < hi ∧ w.heap[g]? = some (.cells cs E (0, 0)) ∧ cs[j]? = some x := by
  rcases h with ⟨rfl, rfl⟩ | ⟨g, cap, cur, rfl, h2, h3, h4, h5, h6, h7, h8⟩
  · exact ⟨none, 0, rfl, fun j x h => by simp at h⟩
  · refine ⟨_, _, rfl, fun j x hj => ⟨g, cur, rfl, h2, h3, h4, ?_⟩⟩
    have hjl := (List.getElem?_eq_some_iff.1 hj).1
    rw [← h8, List.getElem?_take, if_pos hjl] at hj
    simpa using hj

theorem four_alloc (w : World) (o0 o1 o2 o3 : Obj) : ((((w.alloc o0).alloc o1).alloc o2).alloc o3).heap[w.heap.size]? = some o0 ∧ ((((w.alloc o0).alloc o1).alloc o2).alloc o3).heap[w.heap.size + 1]? = some o1 ∧
    ((((w.alloc o0).alloc o1).alloc o2).alloc o3).heap[w.heap.size + 1 + 1]? = some o2 ∧ ((((w.alloc o0).alloc o1).alloc o2).alloc o3).heap[w.heap.size + 1 + 1 + 1]? = some o3 := by
  have s : ∀ (u : World) (o : Obj), (u.alloc o).heap.size = u.heap.size + 1 := fun u o => by simp
  refine ⟨?_, ?_, ?_, ?_⟩
  · exact block_alloc_old (block_alloc_old (block_alloc_old (block_alloc _ _)))
  · have h := block_alloc_old (o' := o3) (block_alloc_old (o' := o2) (block_alloc (w.alloc o0) o1))
    simpa only [s] using h
  · have h := block_alloc_old (o' := o3) (block_alloc ((w.alloc o0).alloc o1) o2)
    simpa only [s] using h
  · have h := block_alloc (((w.alloc o0).alloc o1).alloc o2) o3
    simpa only [s] using h
set_option maxRecDepth 100000 in
set_option maxHeartbeats 16000000 in
theorem irec_any [Inhabited Low] [BI : Inhabited Bar] {a : Nat → Addr} {B lo hi gb ab fuel uf : Nat} {Mw : List Nat} {wst : List Told → World → Prop} (R : Rig a B lo hi gb ab Mw wst) {g : Exp} {b p : Nat} {sn sl vf ev : Value} {vs : List Value} {env : Env} {st : St} {r : Rz} {vb : List Nat} {w : World} {p0 : List Sch × Sub}
    (hbod : ∀ x ∈ gBodies g, ∀ BJ : Inhabited Bar, @OfOK _ BJ a B lo hi gb ab fuel uf .nilFunc none Mw wst x) (hfor : OfOK a B lo hi gb ab fuel uf .nilFunc none Mw wst (gFor g)) (hfu : fuel ≤ 1000000)
    (hst : starts (gNames g).length st.S = some p0) (hr : rounds none (gNames g) env (fun e s => bodiesL uf fuel none (gBodies g) e s) (fun e s => ofE uf fuel none (gFor g) e s) fuel 1 p0.1 ⟨p0.2, st.told⟩ = some r)
    (I : Inv a B lo hi gb ab fuel .nilFunc wst vb st env ev w) (hb : w.heap[b]? = some (.cells #[.int .i64 p, sn, sl, vf] 221 (0, 0))) (hlo : lo ≤ b ∧ b < hi)
    (hn : RowAt w lo hi 9 sn ((gNames g).map fun x => Value.string (bs x))) (hl : RowAt w lo hi 108 sl vs) (hall : AllAt w lo hi (gBodies g) vs) (hf : ExprAt w lo hi (gFor g) [] [] vf) (hwf : wfE true g = true) :
    Calls Tryz.prog 142 #[.pointer (some ⟨gb, 0, none⟩), .pointer (some ⟨b, 0, none⟩), ev] w (EPost a ab (ab :: Mw) wst vb st.S w r) := by
  obtain ⟨aev, rfl⟩ := I.env_.shape
  have hlen : vs.length = (gNames g).length := by rw [allAt_len hall, gBodies_length]
  have hnn := starts_few _ _ _ hst
  obtain ⟨ad, cap, rfl, hcells⟩ := rowAt_shape hl
  rw [hlen] at hb hl
  obtain ⟨n, hN⟩ : ∃ n, n = (gNames g).length := ⟨_, rfl⟩
  rw [← hN] at hlen hnn hb hl hst
  have hmk := make_schemes n hnn
  have b2 := cell_of_block hb 2
  simp at b2
  have hold : ∀ m ∈ ab :: Mw, m < w.heap.size := fun m hm => by
    obtain ⟨cs, T, z, h, _⟩ := R.side I m hm
    exact lt_of_some h
  have b2' := fun (o1 o2 : Obj) => (cell_of_block (block_alloc_old (o' := o2) (block_alloc_old (o' := o1) hb)) 2)
  simp only [List.getElem?_toArray, List.getElem?_cons_succ, List.getElem?_cons_zero] at b2'
  have hg0 : GrpSt a B lo hi gb ab fuel .nilFunc Mw wst env (.pointer aev) b (w.heap.size + 1) w.heap.size (w.heap.size + 1 + 1 + 1) n vb st.S w vb st (w.heap.size + 1 + 1) [] ((((w.alloc (.cells #[.pointer (some ⟨b, 0, none⟩)] 218)).alloc (.cells #[.pointer aev] 114)).alloc (.cells (madeCells #[.nilIface, .map none] (n * 2)) 119)).alloc (.cells #[.slice (some ⟨w.heap.size + 1 + 1, 0, none⟩) n n] 323)) := by
    obtain ⟨q0, q1, q2, q3⟩ := four_alloc w (.cells #[.pointer (some ⟨b, 0, none⟩)] 218) (.cells #[.pointer aev] 114) (.cells (madeCells #[.nilIface, .map none] (n * 2)) 119) (.cells #[.slice (some ⟨w.heap.size + 1 + 1, 0, none⟩) n n] 323)
    have hk : KV [] w ((((w.alloc (.cells #[.pointer (some ⟨b, 0, none⟩)] 218)).alloc (.cells #[.pointer aev] 114)).alloc (.cells (madeCells #[.nilIface, .map none] (n * 2)) 119)).alloc (.cells #[.slice (some ⟨w.heap.size + 1 + 1, 0, none⟩) n n] 323)) := (((((Keeps.refl [] w).alloc _).alloc _).alloc _).alloc _).kv0
    have hs := (hk.mono (M' := ab :: Mw) (by simp)).stp vb st.S
    exact ⟨I.step R hs (I.eng.kv hk (by simp)) (R.wat.keep _ _ _ I.wat (hk.k0.mono (by simp))), ⟨q1, q0, q3⟩, ⟨_, q2, size_madeCells _ _, fun k s h => by simp at h⟩, hs, ⟨by omega, by omega, by omega, by omega⟩, hold, I.eng.lo⟩
  have HG0 := Lib.hid hg0
  have HBOD := Lib.hid hbod
  have HFOR := Lib.hid hfor
  have HR := Lib.hid hr
  have HST := Lib.hid hst
  have HI := Lib.hid I
  have HB := Lib.hid hb
  have HN := Lib.hid hn
  have HCELL := Lib.hid hcells
  have HALL := Lib.hid hall
  have HF := Lib.hid hf
  have HOLD := Lib.hid hold
  have HLEN := Lib.hid hlen
  have HNN := Lib.hid hN
  clear hbod hfor hr hst I hb hn hl hall hf hcells hold hg0 b2 hN hlen
  go_enter Tryz.func142, Tryz.ntmps142
  go_wp2_with fail
  go_loopg [28] n (fun gg i wx => ∃ (j : Nat) (vbj : List Nat) (Sj : Sub) (ssj : List Sch), gg = n - j ∧ i = .int .i64 j ∧ j ≤ n ∧ ssj.length = j ∧ startR (n - j) Sj ssj = some p0 ∧ GrpSt a B lo hi gb ab fuel .nilFunc Mw wst env (.pointer aev) b (w.heap.size + 1) w.heap.size (w.heap.size + 1 + 1 + 1) n vb st.S w vbj ⟨Sj, st.told⟩ (w.heap.size + 1 + 1) ssj wx)
  case atStart => exact ⟨0, vb, st.S, [], rfl, rfl, by omega, rfl, by rw [Nat.sub_zero, startR_begin]; exact HST.out, HG0.out⟩
  case round =>
    obtain ⟨j, vbj, Sj, ssj, hg, rfl, hj, hjl, hsr, hgs⟩ := hrel
    have HG := Lib.hid hg
    have HSR := Lib.hid hsr
    have HGS := Lib.hid hgs
    clear hg hsr hgs b2' HG0
    by_cases hlt : j < n
    · have hdl : decide ((j : Int) < (n : Int)) = true := by simpa using hlt
      have g0 : wr.cell? ⟨gb, 0, none⟩ = some (.pointer (some ⟨ab, 0, none⟩)) := by
        have := cell_of_block HGS.out.inv.gbk 0
        simpa using this
      have hsr := HSR.out
      rw [show n - j = (n - (j + 1)) + 1 by omega, startR_succ] at hsr
      have hfew : Sj.length < 100000 := by
        by_cases h : Sj.length < 100000
        · exact h
        · rw [if_neg h] at hsr; cases hsr
      rw [if_pos hfew] at hsr
      have HSR1 := Lib.hid hsr
      have HFEW := Lib.hid hfew
      have HNEW := Lib.hid (vars_new HGS.out.inv.eng hfew)
      clear hsr hfew
      go_wp2_with fail
      refine HNEW.out.mono ?_
      rintro e w1 ⟨rfl, hst1, he1, hty1⟩
      have hgs1 := HGS.out.step (st' := ⟨Sj ++ [.var (Sj.length + 1)], st.told⟩) R (hst1.mono (by simp)) he1 (R.wat.keep _ _ _ HGS.out.inv.wat hst1.k0)
      have HGS1 := Lib.hid hgs1
      have HTY1 := Lib.hid hty1
      obtain ⟨bv, nmv, _, hvb, _, hbv⟩ := hty1
      have hlv : vbj.length = Sj.length := HGS.out.inv.eng.len
      have ebv : bv = wr.heap.size := by
        rw [Nat.add_sub_cancel, ← hlv] at hvb
        simpa using hvb.symm
      subst ebv
      have HBV := Lib.hid hbv
      have s0 : w1.cell? ⟨w.heap.size + 1 + 1 + 1, 0, none⟩ = some (.slice (some ⟨w.heap.size + 1 + 1, 0, none⟩) n n) := by
        have := cell_of_block hgs1.bx.sb 0
        simpa using this
      have hset0 : SetN (w1.alloc (.map #[] 0)).drew w1.heap.size 0 [] := (SetN.made w1).same rfl
      obtain ⟨W2, hrun2, hset2, hgr2⟩ := hset0.store (by unfold maxLen; omega) (Sj.length + 1) (by have := HFEW.out; omega)
      simp only [Int.natCast_add, Int.natCast_one] at hrun2
      have hk2 : Keeps [] w1 W2 := by
        refine ((((Keeps.refl [] w1).alloc (.map #[] 0)).drew).grown hgr2 ?_)
        rintro k e
        cases e
        exact .inr (Nat.le_refl _)
      have hgs2 := hgs1.kv R hk2.kv0
      obtain ⟨cs, hcs, hcz, _⟩ := hgs2.row
      have r0 : W2.cell? ⟨w.heap.size + 1 + 1, j * 2, none⟩ = some cs[j * 2] := by rw [cell_of_block hcs]; exact Array.getElem?_eq_getElem (by omega)
      have r1 : W2.cell? ⟨w.heap.size + 1 + 1, j * 2 + 1, none⟩ = some cs[j * 2 + 1] := by rw [cell_of_block hcs]; exact Array.getElem?_eq_getElem (by omega)
      have y0 : W2.frozen? ⟨w.heap.size + 1 + 1, j * 2, none⟩ = false := free_of_block hcs _
      have y1 : W2.frozen? ⟨w.heap.size + 1 + 1, j * 2 + 1, none⟩ = false := free_of_block hcs _
      have v0 := cell_of_block hbv 0
      simp at v0
      have s0b : (w1.alloc (.map #[] 0)).cell? ⟨w.heap.size + 1 + 1 + 1, 0, none⟩ = some (.slice (some ⟨w.heap.size + 1 + 1, 0, none⟩) n n) := ((Keeps.refl [] w1).alloc (.map #[] 0)).cellSome s0 (by simp)
      have s0c : W2.cell? ⟨w.heap.size + 1 + 1 + 1, 0, none⟩ = some (.slice (some ⟨w.heap.size + 1 + 1, 0, none⟩) n n) := hk2.cellSome s0 (by simp)
      have v0b := ((Keeps.refl [] w1).alloc (.map #[] 0)).cellSome v0 (by simp)
      have v0c := hk2.cellSome v0 (by simp)
      have hj2 : (j : Int) < (n : Int) := by omega
      have hmm := @run_makeMap Tryz.prog
      have HSET2 := Lib.hid hset2
      have HK2 := Lib.hid hk2
      have HGS2 := Lib.hid hgs2
      clear hst1 he1 hgs1 hset0 hset2 hgr2 hk2 hgs2 hcs hvb hbv g0
      go_wp2_with fail
      go_region
      all_goals
        go_wp2_with fail
        have hpush := HGS2.out.push R (by omega) (s := ⟨.var (Sj.length + 1), [Sj.length + 1]⟩) (t := vV wr.heap.size) (m := .map (some w1.heap.size)) ⟨?_, .inr ⟨_, _, rfl, HSET2.out⟩⟩
        · have HP := Lib.hid hpush
          clear hpush
          go_roundg (n - (j + 1))
          case measure => have := HG.out; omega
          case rel => exact ⟨j + 1, vbj ++ [wr.heap.size], _, _, rfl, by go_num, by omega, by simp [hjl], HSR1.out, by have h := HP.out; rw [hjl] at h; exact h⟩
        · have h := HK2.out.kv0.te HTY1.out
          rw [TyE.self_ap HGS2.out.inv.eng h]
          exact h
    · have hdl : decide ((j : Int) < (n : Int)) = false := by simpa using hlt
      have hp0 : p0 = (ssj, Sj) := by
        have h := HSR.out
        rw [show n - j = 0 by omega, startR_zero] at h
        exact (Option.some.inj h).symm
      subst hp0
      obtain rfl : j = n := by omega
      have HJL := Lib.hid hjl
      clear hjl HSR HST hlt
      go_wp2_with fail
      clear hdl
      go_loopg [11] fuel (fun gg rnd wx => ∃ (k no gr : Nat) (vbk : List Nat) (stk : St) (ss : List Sch), gg = k ∧ rnd = .int .i64 no ∧ k + no = fuel + 1 ∧ ss.length = j ∧ rounds none (gNames g) env (fun e s => bodiesL uf fuel none (gBodies g) e s) (fun e s => ofE uf fuel none (gFor g) e s) k no ss stk = some r ∧
        GrpSt a B lo hi gb ab fuel .nilFunc Mw wst env (.pointer aev) b (w.heap.size + 1) w.heap.size (w.heap.size + 1 + 1 + 1) j vb st.S w vbk stk gr ss wx)
      case atStart => exact ⟨fuel, 1, _, _, _, _, rfl, rfl, rfl, HJL.out, HR.out, HGS.out⟩
      case round =>
        obtain ⟨k, no, gr, vbk, stk, ss, hg2, rfl, hkn, hsl, hro, hgk⟩ := hrel
        have HG2 := Lib.hid hg2
        have HRO := Lib.hid hro
        have HGK := Lib.hid hgk
        have HSL := Lib.hid hsl
        have g1 : wr.cell? ⟨gb, 1, none⟩ = some (.int .i64 fuel) := by
          have := cell_of_block hgk.inv.gbk 1
          simpa using this
        clear hg2 hro hgk hsl HR HGS HJL HG
        cases k with
        | zero =>
          have hdl : decide ((no : Int) ≤ (fuel : Int)) = false := by simp; omega
          have hr := HRO.out
          simp only [rounds, Option.some.injEq] at hr
          have HRR := Lib.hid hr
          have e5 := (HGK.out.inv.gl).v5
          go_wp2_with fail
          refine (ifail_any _ _ wr).mono ?_
          rintro e w3 ⟨rfl, rfl⟩
          go_wp2
          refine ⟨rfl, ?_⟩
          rw [← HRR.out]
          exact ⟨5, by omega, rfl, rfl, HGK.out.stp.k0, HGK.out.inv.wat⟩
        | succ k =>
          have hdl : decide ((no : Int) ≤ (fuel : Int)) = true := by simp; omega
          have HHI := Lib.hid HI.out.hi_
          have hbind := bind_any (p := p) (vf := vf) (ns := gNames g) (ss := ss) (by rw [HSL.out]; exact HGK.out.bx) (R.blk HGK.out.stp.k0 HHI.out hlo HB.out) (HN.out.keep (R.same HGK.out.stp.k0 HHI.out)) (by rw [HSL.out]; exact HNN.out.symm) (by rw [HSL.out]; exact HGK.out.row) HGK.out.inv.env_
          have HBIND := Lib.hid hbind
          clear hbind
          go_wp2_with fail
          refine HBIND.out.mono ?_
          rintro e w1 ⟨vin, rfl, henv, hk1⟩
          have hg1 := HGK.out.kv R hk1.kv0
          have I2 : Inv a B lo hi gb ab fuel .nilFunc wst vbk stk (bindAll (gNames g) ss env) vin w1 := ⟨hg1.inv.gl, hg1.inv.gbk, hg1.inv.hi_, hg1.inv.eng, henv, hg1.inv.wat⟩
          have HG1 := Lib.hid hg1
          have HBD0 := Lib.hid (BodSt.begin R I2)
          obtain ⟨ain, rfl⟩ := henv.shape
          have y0 : w1.cell? ⟨w.heap.size, 0, none⟩ = some (.pointer (some ⟨b, 0, none⟩)) := by
            have := cell_of_block hg1.bx.yb 0
            simpa using this
          have bb := R.blk hg1.stp.k0 HHI.out hlo HB.out
          have q2 := cell_of_block bb 2
          simp only [List.getElem?_toArray, List.getElem?_cons_succ, List.getElem?_cons_zero] at q2
          have hro := HRO.out
          simp only [rounds] at hro
          clear hg1 henv hk1 I2 g1 bb HBIND
          cases hrb : bodiesL uf fuel none (gBodies g) (bindAll (gNames g) ss env) stk with
          | none => rw [hrb] at hro; cases hro
          | some rb =>
            rw [hrb] at hro
            have HRB := Lib.hid ((bodR_begin uf fuel none (gBodies g) (bindAll (gNames g) ss env) stk).trans hrb)
            have HRX := Lib.hid hro
            clear hrb hro HRO
            go_wp2_with fail
            go_loopg [13, 66] j (fun gg l i wx => ∃ (q : Nat) (vbq : List Nat) (stq : St) (ts : List Ty) (us : List Value) (X : List Nat), gg = j - q ∧ i = .int .i64 q ∧ q ≤ j ∧ us.length = q ∧ bodR uf fuel none ((gBodies g).drop q) (bindAll (gNames g) ss env) stq ts = some rb ∧
              BodSt BI a B lo hi gb ab fuel .nilFunc Mw wst (bindAll (gNames g) ss env) (.pointer ain) vbk stk.S w1 vbq stq ts us l X wx)
            case atStart => exact ⟨0, vbk, stk, [], [], [], rfl, rfl, by omega, rfl, HRB.out, HBD0.out⟩
            case round =>
              obtain ⟨q, vbq, stq, ts, us, X, hg3, rfl, hq, hul, hbr, hbd⟩ := hrel
              have HG3 := Lib.hid hg3
              have HBR := Lib.hid hbr
              have HBD := Lib.hid hbd
              have HUL := Lib.hid hul
              clear hg3 hbr hbd hul y0 q2 hdl HRB HBD0
              by_cases hqlt : q < j
              · have hdq : decide ((q : Int) < (j : Int)) = true := by simpa using hqlt
                have hqb : q < (gBodies g).length := by rw [gBodies_length, ← HNN.out]; exact hqlt
                obtain ⟨xq, hxq, hexq⟩ := HALL.out.get q hqb
                obtain ⟨gq, csq, rfl, hlq, hhq, hbq, hcq⟩ := HCELL.out q xq hxq
                have hk0 := HG1.out.stp.k0.transM HBD.out.k0
                have cq : wr.cell? ⟨gq, q, none⟩ = some xq := by rw [cell_of_block (R.blk hk0 HHI.out ⟨hlq, hhq⟩ hbq)]; exact hcq
                have hexq' := R.expr hk0 HHI.out hexq
                have hbr := HBR.out
                rw [List.drop_eq_getElem_cons hqb, bodR_cons] at hbr
                have hqj : (q : Int) < (j : Int) := by omega
                obtain ⟨xt, xp, rfl⟩ : ∃ xt xp, xq = .iface xt xp := by
                  obtain ⟨ty, bb, h⟩ := hexq.ifp ((group_wf g hwf).1 _ (List.getElem_mem hqb))
                  exact ⟨_, _, h⟩
                cases hof : ofE uf fuel none (gBodies g)[q] (bindAll (gNames g) ss env) stq with
                | none => rw [hof] at hbr; cases hbr
                | some rq =>
                  rw [hof] at hbr
                  have HC := Lib.hid (HBOD.out _ (List.getElem_mem hqb) (barX BI X) _ _ _ hof vbq wr _ _ HBD.out.inv hexq')
                  have HBQ := Lib.hid hbr
                  clear hof hbr hexq hexq' hcq hbq hk0 hxq
                  go_wp2_with fail
                  refine HC.out.mono ?_
                  intro e u hp
                  rcases rq with ⟨f, l⟩ | ⟨t, stu⟩
                  · obtain ⟨kf, hkf, rfl, rfl, hk0, hw⟩ := hp
                    have h := HBQ.out
                    simp only [M.bind, Option.some.injEq] at h
                    subst h
                    have hrx := HRX.out
                    simp only [M.bind, Option.some.injEq] at hrx
                    subst hrx
                    go_wp2
                    exact ⟨rfl, kf, hkf, rfl, rfl, (HG1.out.stp.k0.transM HBD.out.k0).transM hk0, hw⟩
                  · obtain ⟨v, vbu, rfl, hty, hst, he, hw⟩ := hp
                    have HBD2 := Lib.hid (HBD.out.call R hst he hw)
                    have HTY := Lib.hid hty
                    have h := HBQ.out
                    simp only [M.bind] at h
                    have HBR2 := Lib.hid h
                    obtain ⟨ut, up, rfl⟩ : ∃ ut up, v = .iface ut up := by rcases (@TyE.shape _ (barX BI X) _ _ _ _ hty) with ⟨_, rfl⟩ | ⟨_, rfl⟩ <;> exact ⟨_, _, rfl⟩
                    have q1 := HBD2.out.row.alloc (.cells #[.iface ut up] 116)
                    rw [HUL.out] at q1
                    have q6 := HBD2.out.k0.size
                    obtain ⟨ib, hib, hib0, hib1, hib2⟩ := info_parts infoTypeM
                    clear hty hst he hw h HBR HBD HBQ HC cq
                    go_wp2_with (at_builtin; go_must (refine wpList_append_lies _ rfl _ _ 185 rfl w1.heap.size 116 ib .nilIface 1 16 undTypesM hib hib0 hib1 hib2 rfl (by decide) _ _ _ rfl q1 ⟨u.heap.size, 0, none⟩ 1 1 [.iface ut up] rfl rfl ?c1 ?c2 (by decide) ?c3 ?c4 ?c5 _ rfl ?_))
                    case c1 => exact cells_new u [.iface ut up] 116
                    case c2 => intro x hx; simp at hx; subst hx; rfl
                    case c3 => unfold maxLen; omega
                    case c4 => omega
                    case c5 => simp; omega
                    intro g5 c5 w5 hown hgr hlg hlt5
                    have hown2 := hown
                    rw [← HUL.out] at hown2
                    obtain ⟨X', hpush⟩ := HBD2.out.push R HTY.out ((Keeps.refl [] u).alloc _) g5 c5 hown2 hgr (hlg.imp id (fun h => by omega))
                    rw [HUL.out] at hpush
                    have HP := Lib.hid hpush
                    clear hown hown2 hgr hlg hlt5 hpush HBD2 q1 q6 hib hib0 hib1 hib2
                    go_wp2_with fail
                    go_roundg (j - (q + 1))
                    case measure => have := HG3.out; omega
                    case rel => exact ⟨q + 1, vbu, stu, ts ++ [t], us ++ [.iface ut up], X', rfl, by go_num, by omega, by simp [HUL.out], HBR2.out, HP.out⟩
              · have hdq : decide ((q : Int) < (j : Int)) = false := by simpa using hqlt
                obtain rfl : q = j := by omega
                obtain ⟨adl, capl, rfl, hlr⟩ := own_rowC HBD.out.row
                obtain ⟨hinv, hstp, hty⟩ := HBD.out.done
                have hbr := HBR.out
                rw [List.drop_of_length_le (by rw [gBodies_length, ← HNN.out]; exact Nat.le_refl _), bodR_nil] at hbr
                have hrx := HRX.out
                rw [← Option.some.inj hbr] at hrx
                simp only [M.bind] at hrx
                have hsm : ts.any (tooGreat stq.S env) = false := by
                  by_cases hgr : ts.any (tooGreat stq.S env) = true
                  · rw [if_pos hgr] at hrx; cases hrx
                  · exact eq_false_of_ne_true hgr
                rw [if_neg (by rw [hsm]; simp)] at hrx
                have HRY := Lib.hid hrx
                have HSM := Lib.hid hsm
                have hgq := HG1.out.step R hstp hinv.eng hinv.wat
                have HGQ := Lib.hid hgq
                have HLR := Lib.hid hlr
                have HTYS := Lib.hid hty
                have HTL := Lib.hid (HBD.out.len.trans HUL.out)
                have hulq := HUL.out
                have hmk2 := hmk wr
                clear hbr hrx hsm hgq hinv hstp hty hlr HBR HRX HG1 HBD hqlt HG3
                rw [hulq]
                clear hulq
                go_wp2_with fail
                have hks := HGQ.out.stp.k0.size
                have hgz : gr < wr.heap.size := by obtain ⟨cs, h, _⟩ := HGQ.out.row; exact lt_of_some h
                have hkn := kv_alloc wr (.cells (madeCells #[.nilIface, .map none] (q * 2)) 119)
                have hnx : NxSt a B lo hi gb ab fuel .nilFunc Mw wst env (.pointer aev) b (w.heap.size + 1) w.heap.size (w.heap.size + 1 + 1 + 1) q vb st.S w vbq stq gr ss ts us adl wr.heap.size [] (wr.alloc (.cells (madeCells #[.nilIface, .map none] (q * 2)) 119)) :=
                  ⟨HGQ.out.kv R hkn, hkn.k0.rowC HLR.out, fun j t v e1 e2 => hkn.te (HTYS.out j t v e1 e2), ⟨_, block_alloc wr _, size_madeCells _ _, fun k s h => by simp at h⟩, hks, by omega⟩
                have HNX0 := Lib.hid hnx
                obtain ⟨gn, hgn⟩ : ∃ gn, gn = wr.heap.size := ⟨_, rfl⟩
                rw [← hgn] at HNX0 ⊢
                clear hnx hkn hgz hks hgn hmk2 hdq HGK HLR HTYS HGQ
                go_loopg [17, 83] q (fun gg sm i wx => ∃ (m : Nat) (nx : List Sch), gg = q - m ∧ i = .int .i64 m ∧ m ≤ q ∧ nx = (ts.take m).map (gen stq.S env) ∧ sm = .bool (allAlike stq.S (ss.take m) nx) ∧
                  NxSt a B lo hi gb ab fuel .nilFunc Mw wst env (.pointer aev) b (w.heap.size + 1) w.heap.size (w.heap.size + 1 + 1 + 1) q vb st.S w vbq stq gr ss ts us adl gn nx wx)
                case atStart => exact ⟨0, [], rfl, rfl, by omega, by simp, by simp [allAlike], HNX0.out⟩
                case round =>
                  obtain ⟨m, nx, hg5, rfl, hm, rfl, hsmv, hnx⟩ := hrel
                  obtain ⟨smb, hsmb⟩ : ∃ s, s = allAlike stq.S (ss.take m) ((ts.take m).map (gen stq.S env)) := ⟨_, rfl⟩
                  rw [← hsmb] at hsmv
                  subst hsmv
                  have HSAME := Lib.hid hsmb
                  clear hsmb
                  have HG5 := Lib.hid hg5
                  have HNX := Lib.hid hnx
                  clear hg5 hnx HNX0
                  have hnl : ((ts.take m).map (gen stq.S env)).length = m := by have := HTL.out; simp; omega
                  by_cases hmlt : m < q
                  · have hdm : decide ((m : Int) < (q : Int)) = true := by simpa using hmlt
                    obtain ⟨tm, htm⟩ : ∃ t, ts[m]? = some t := ⟨_, List.getElem?_eq_getElem (by have := HTL.out; omega)⟩
                    obtain ⟨vm, hvm⟩ : ∃ v, us[m]? = some v := ⟨_, List.getElem?_eq_getElem (by have := HUL.out; omega)⟩
                    obtain ⟨gl, rfl, hcl⟩ := HNX.out.lr.cell hvm
                    have htym := HNX.out.ty m tm vm htm hvm
                    have hgrt := any_great HSM.out htm
                    have hszm : envSize stq.S env + (tm.ap stq.S).size ≤ 100000 := by unfold tooGreat at hgrt; simpa using hgrt
                    obtain ⟨vt, vp, rfl⟩ : ∃ vt vp, vm = .iface vt vp := by rcases htym.shape with ⟨_, rfl⟩ | ⟨_, rfl⟩ <;> exact ⟨_, _, rfl⟩
                    have e0 : wr.cell? ⟨w.heap.size + 1, 0, none⟩ = some (.pointer aev) := by
                      have := cell_of_block HNX.out.rc.bx.eb 0
                      simpa using this
                    have HCLOSE := Lib.hid (close_any HNX.out.rc.inv.eng HNX.out.rc.inv.env_ htym hszm)
                    have HTM := Lib.hid htm
                    have HTYM := Lib.hid htym
                    have hmq : (m : Int) < (q : Int) := by omega
                    clear htm hvm htym hgrt hszm
                    go_wp2_with fail
                    refine HCLOSE.out.mono ?_
                    rintro e w2 ⟨mm, rfl, hset, hk2⟩
                    have HNX2 := Lib.hid (HNX.out.kv R hk2)
                    have HTY2 := Lib.hid (hk2.te HTYM.out)
                    have HSET := Lib.hid hset
                    obtain ⟨nm1, rfl⟩ : ∃ x, mm = .map x := by rcases hset with ⟨rfl, _⟩ | ⟨b, n, rfl, _⟩ <;> exact ⟨_, rfl⟩
                    obtain ⟨cs, hcs, hcz, _⟩ := HNX2.out.nr
                    have r0 : w2.cell? ⟨gn, m * 2, none⟩ = some cs[m * 2] := by rw [cell_of_block hcs]; exact Array.getElem?_eq_getElem (by omega)
                    have r1 : w2.cell? ⟨gn, m * 2 + 1, none⟩ = some cs[m * 2 + 1] := by rw [cell_of_block hcs]; exact Array.getElem?_eq_getElem (by omega)
                    have z0 : w2.frozen? ⟨gn, m * 2, none⟩ = false := free_of_block hcs _
                    have z1 : w2.frozen? ⟨gn, m * 2 + 1, none⟩ = false := free_of_block hcs _
                    have hsch : SchAt vbq stq.S w2 (gen stq.S env tm) (.iface vt vp) (.map nm1) := ⟨by rw [show (gen stq.S env tm).t = tm.ap stq.S from rfl, ap_fix HNX2.out.rc.inv.eng.fix]; exact HTY2.out, hset⟩
                    have hpush := HNX2.out.push R (by rw [hnl]; exact hmlt) hsch
                    rw [hnl] at hpush
                    have HNX3 := Lib.hid hpush
                    clear hk2 hset hcs hsch hpush hcl e0
                    go_wp2_with fail
                    revert HNX3
                    generalize ((w2.setCell ⟨gn, m * 2, none⟩ (.iface vt vp)).setCell ⟨gn, m * 2 + 1, none⟩ (.map nm1)) = W3
                    intro HNX3
                    obtain ⟨sm, hsm⟩ : ∃ s, ss[m]? = some s := ⟨_, List.getElem?_eq_getElem (by have := HSL.out; omega)⟩
                    obtain ⟨s1, s2, f1, f2, hs1⟩ := HNX3.out.rc.row.at hsm
                    obtain ⟨t1, t2, f3, f4, hs2⟩ := HNX3.out.nr.at (k := m) (s := gen stq.S env tm) (by rw [List.getElem?_append_right (by omega), hnl]; simp)
                    obtain ⟨⟨st1, sp1, rfl⟩, sm1, rfl⟩ := hs1.shape
                    obtain ⟨⟨nt1, np1, rfl⟩, nm2, rfl⟩ := hs2.shape
                    have hvb3 : vbq.length ≤ 100000 := by rw [HNX3.out.rc.inv.eng.len]; exact HNX3.out.rc.inv.eng.few
                    have hkd3 : KV [] W3 W3.drew := (Keeps.refl [] W3).drew.kv0
                    have HALK := Lib.hid (alike_any (S := stq.S) (w := W3.drew) hvb3 ⟨hkd3.te hs1.1, hs1.2.keep hkd3.k0 (fun m hm => by cases hm)⟩ ⟨hkd3.te hs2.1, hs2.2.keep hkd3.k0 (fun m hm => by cases hm)⟩)
                    have hs25 : ∀ (W : World), KV [] W3 W → (W.cell? ⟨w.heap.size + 1 + 1 + 1, 0, none⟩ = some (.slice (some ⟨gr, 0, none⟩) q q) ∧ W.cell? ⟨gr, m * 2, none⟩ = some (.iface st1 sp1) ∧ W.cell? ⟨gr, m * 2 + 1, none⟩ = some (.map sm1) ∧ W.cell? ⟨gn, m * 2, none⟩ = some (.iface nt1 np1) ∧ W.cell? ⟨gn, m * 2 + 1, none⟩ = some (.map nm2)) := by
                      intro W hW
                      obtain ⟨cr, hcr, _⟩ := HNX3.out.rc.row
                      obtain ⟨cn, hcn, _⟩ := HNX3.out.nr
                      rw [cell_of_block hcr] at f1 f2
                      rw [cell_of_block hcn] at f3 f4
                      have nv : ∀ (T : TypeId), T ≠ 180 → ∀ (cs : Array Value) (z : Nat × Nat) N u nm, Obj.cells cs T z ≠ varO N u nm := fun T hT cs z N u nm e => by
                        simp only [varO, Obj.cells.injEq] at e
                        exact hT e.2.1
                      have b1 := hW.blk HNX3.out.rc.bx.sb (by simp) (nv _ (by decide) _ _)
                      have b2 := hW.blk hcr (by simp) (nv _ (by decide) _ _)
                      have b3 := hW.blk hcn (by simp) (nv _ (by decide) _ _)
                      exact ⟨(cell_of_block b1 0).trans (by simp), (cell_of_block b2 _).trans f1, (cell_of_block b2 _).trans f2, (cell_of_block b3 _).trans f3, (cell_of_block b3 _).trans f4⟩
                    have HS25 := Lib.hid hs25
                    have HNXT := Lib.hid (take_next' HTM.out)
                    have HSST := Lib.hid (take_next' hsm)
                    have hal := allAlike_next (S := stq.S) (ss := ss.take m) (nx := (ts.take m).map (gen stq.S env)) (s := sm) (n := gen stq.S env tm) (by rw [hnl]; have := HSL.out; simp; omega)
                    have HALL2 := Lib.hid hal
                    have hm3 : (m : Int) < (q : Int) := by omega
                    clear hs25 f1 f2 f3 f4 hs1 hs2 hkd3 hsm r0 r1 z0 z1 hcz hal HSET HTY2 HNX2 HNX HCLOSE HTYM
                    cases smb with
                    | true =>
                      refine wp_region_held_drew (S := (fun W => W.cell? ⟨w.heap.size + 1 + 1 + 1, 0, none⟩ = some (.slice (some ⟨gr, 0, none⟩) q q) ∧ W.cell? ⟨gr, m * 2, none⟩ = some (.iface st1 sp1) ∧ W.cell? ⟨gr, m * 2 + 1, none⟩ = some (.map sm1) ∧ W.cell? ⟨gn, m * 2, none⟩ = some (.iface nt1 np1) ∧ W.cell? ⟨gn, m * 2 + 1, none⟩ = some (.map nm2))) (by kernel_rfl) ?_ (fun hHeld => ?_)
                      · exact HS25.out _ (Keeps.refl [] W3).drew.kv0
                      refine wpAnyH_take (i := 0) (by simp only [qgA, qgC]; rfl) (by kernel_rfl) (by kernel_rfl) (by kernel_rfl) (by exact fun _ _ _ h => h) (Or.inl ⟨by rfl, by intro w hSw; (try dsimp only at hSw); first | (go_simp; done) | (go_simp; with_reducible rfl)⟩) (by assumption) ?_
                      try simp only [Act.put, qsA, qsB, qsC]
                      refine wpAnyH_take (i := 1) (by simp only [qgA, qgB, qgC]; rfl) (by kernel_rfl) (by kernel_rfl) (by kernel_rfl) (by exact fun _ _ _ h => h) (Or.inl ⟨by rfl, by intro w hSw; (try dsimp only at hSw); first | (go_simp; done) | (go_simp; with_reducible rfl)⟩) (by assumption) ?_
                      try simp only [Act.put, qsA, qsB, qsC]
                      refine wpAnyH_take (i := 2) (by simp only [qgA, qgB, qgC]; rfl) (by kernel_rfl) (by kernel_rfl) (by kernel_rfl) (by exact fun _ _ _ h => h) (Or.inl ⟨by rfl, by intro w hSw; (try dsimp only at hSw); first | (go_simp; done) | (go_simp; with_reducible rfl)⟩) (by assumption) ?_
                      try simp only [Act.put, qsA, qsB, qsC]
                      refine wpAnyH_take (i := 3) (by simp only [qgA, qgB, qgC]; rfl) (by kernel_rfl) (by kernel_rfl) (by kernel_rfl) (by exact fun _ _ _ h => h) (Or.inl ⟨by rfl, by intro w hSw; (try dsimp only at hSw); first | (go_simp; done) | (go_simp; with_reducible rfl)⟩) (by assumption) ?_
                      try simp only [Act.put, qsA, qsB, qsC]
                      refine wpAnyH_take (i := 4) (by simp only [qgA, qgB, qgC]; rfl) (by kernel_rfl) (by kernel_rfl) (by kernel_rfl) (by exact fun _ _ _ h => h) (Or.inl ⟨by rfl, by intro w hSw; (try dsimp only at hSw); first | (go_simp; done) | (go_simp; with_reducible rfl)⟩) (by assumption) ?_
                      try simp only [Act.put, qsA, qsB, qsC]
                      refine wpAnyH_take (i := 5) (by simp only [qgA, qgB, qgC]; rfl) (by kernel_rfl) (by kernel_rfl) (by kernel_rfl) (by exact fun _ _ _ h => h) (Or.inl ⟨by rfl, by intro w hSw; (try dsimp only at hSw); first | (go_simp; done) | (go_simp; with_reducible rfl)⟩) (by assumption) ?_
                      try simp only [Act.put, qsA, qsB, qsC]
                      refine wpAnyH_take (i := 6) (by simp only [qgA, qgB, qgC]; rfl) (by kernel_rfl) (by kernel_rfl) (by kernel_rfl) (by exact fun _ _ _ h => h) (Or.inl ⟨by rfl, by intro w hSw; (try dsimp only at hSw); first | (go_simp; done) | (go_simp; with_reducible rfl)⟩) (by assumption) ?_
                      try simp only [Act.put, qsA, qsB, qsC]
                      refine wpAnyH_take (i := 7) (by simp only [qgA, qgB, qgC]; rfl) (by kernel_rfl) (by kernel_rfl) (by kernel_rfl) (by exact fun _ _ _ h => h) (Or.inl ⟨by rfl, by intro w hSw; (try dsimp only at hSw); first | (go_simp; done) | (go_simp; with_reducible rfl)⟩) (by assumption) ?_
                      try simp only [Act.put, qsA, qsB, qsC]
                      refine wpAnyH_take (i := 8) (by simp only [qgA, qgB, qgC]; rfl) (by kernel_rfl) (by kernel_rfl) (by kernel_rfl) (by exact fun _ _ _ h => h) (Or.inl ⟨by rfl, by intro w hSw; (try dsimp only at hSw); first | (go_simp; done) | (go_simp; with_reducible rfl)⟩) (by assumption) ?_
                      try simp only [Act.put, qsA, qsB, qsC]
                      refine wpAnyH_take (i := 9) (by simp only [qgA, qgB, qgC]; rfl) (by kernel_rfl) (by kernel_rfl) (by kernel_rfl) (by exact fun _ _ _ h => h) (Or.inl ⟨by rfl, by intro w hSw; (try dsimp only at hSw); first | (go_simp; done) | (go_simp; with_reducible rfl)⟩) (by assumption) ?_
                      try simp only [Act.put, qsA, qsB, qsC]
                      refine wpAnyH_ready (rs := [10]) (by kernel_rfl) (by simp) ?_
                      refine AllReadyH.cons rfl (fun K hK => ?_) AllReadyH.nil
                      go_simp
                      refine HALK.out.mono ?_
                      rintro e w4 ⟨rfl, hk4⟩
                      have HK4 := Lib.hid ((Keeps.refl [] W3).drew.kv0.trans0 hk4)
                      clear hk4
                      go_wp2_with fail
                      refine hK.out _ _ (HS25.out _ HK4.out) (fun hHeld2 => ?_)
                      clear hK K hHeld
                      try simp only [Act.put, qsA, qsB, qsC]
                      refine wpAnyH_take (i := 11) (by simp only [qgA, qgB, qgC]; rfl) (by kernel_rfl) (by kernel_rfl) (by kernel_rfl) (by exact fun _ _ _ h => h) (Or.inl ⟨by rfl, by intro w hSw; (try dsimp only at hSw); first | (go_simp; done) | (go_simp; with_reducible rfl)⟩) (by assumption) ?_
                      try simp only [Act.put, qsA, qsB, qsC]
                      refine wpAnyH_take (i := 12) (by simp only [qgA, qgB, qgC]; rfl) (by kernel_rfl) (by kernel_rfl) (by kernel_rfl) (by exact fun _ _ _ h => h) (Or.inl ⟨by rfl, by intro w hSw; (try dsimp only at hSw); first | (go_simp; done) | (go_simp; with_reducible rfl)⟩) (by assumption) ?_
                      try simp only [Act.put, qsA, qsB, qsC]
                      refine wpAnyH_done (by kernel_rfl) ?_ _
                      go_wp2_with fail
                      go_roundg (q - (m + 1))
                      case measure => have := HG5.out; omega
                      case rel => exact ⟨m + 1, _, rfl, by go_num, by omega, by rw [HNXT.out, List.map_append, List.map_singleton], by rw [HSST.out, HALL2.out, ← HSAME.out, Bool.true_and], HNX3.out.kv R HK4.out⟩
                    | false =>
                      refine wp_region_held_drew (S := (fun W => W.cell? ⟨w.heap.size + 1 + 1 + 1, 0, none⟩ = some (.slice (some ⟨gr, 0, none⟩) q q) ∧ W.cell? ⟨gr, m * 2, none⟩ = some (.iface st1 sp1) ∧ W.cell? ⟨gr, m * 2 + 1, none⟩ = some (.map sm1) ∧ W.cell? ⟨gn, m * 2, none⟩ = some (.iface nt1 np1) ∧ W.cell? ⟨gn, m * 2 + 1, none⟩ = some (.map nm2))) (by kernel_rfl) ?_ (fun hHeld => ?_)
                      · exact HS25.out _ (Keeps.refl [] W3).drew.kv0
                      refine wpAnyH_take (i := 0) (by simp only [qgA, qgC]; rfl) (by kernel_rfl) (by kernel_rfl) (by kernel_rfl) (by exact fun _ _ _ h => h) (Or.inl ⟨by rfl, by intro w hSw; (try dsimp only at hSw); first | (go_simp; done) | (go_simp; with_reducible rfl)⟩) (by assumption) ?_
                      try simp only [Act.put, qsA, qsB, qsC]
                      refine wpAnyH_take (i := 1) (by simp only [qgA, qgB, qgC]; rfl) (by kernel_rfl) (by kernel_rfl) (by kernel_rfl) (by exact fun _ _ _ h => h) (Or.inl ⟨by rfl, by intro w hSw; (try dsimp only at hSw); first | (go_simp; done) | (go_simp; with_reducible rfl)⟩) (by assumption) ?_
                      try simp only [Act.put, qsA, qsB, qsC]
                      refine wpAnyH_take (i := 2) (v := undef) (by simp only [qgA, qgB, qgC]; rfl) (by kernel_rfl) (by kernel_rfl) (by kernel_rfl) (by exact fun _ _ _ h => h) (Or.inr ⟨by rfl, rfl⟩) (by assumption) ?_
                      try simp only [Act.put, qsA, qsB, qsC]
                      refine wpAnyH_take (i := 3) (v := undef) (by simp only [qgA, qgB, qgC]; rfl) (by kernel_rfl) (by kernel_rfl) (by kernel_rfl) (by exact fun _ _ _ h => h) (Or.inr ⟨by rfl, rfl⟩) (by assumption) ?_
                      try simp only [Act.put, qsA, qsB, qsC]
                      refine wpAnyH_take (i := 4) (v := undef) (by simp only [qgA, qgB, qgC]; rfl) (by kernel_rfl) (by kernel_rfl) (by kernel_rfl) (by exact fun _ _ _ h => h) (Or.inr ⟨by rfl, rfl⟩) (by assumption) ?_
                      try simp only [Act.put, qsA, qsB, qsC]
                      refine wpAnyH_take (i := 5) (v := undef) (by simp only [qgA, qgB, qgC]; rfl) (by kernel_rfl) (by kernel_rfl) (by kernel_rfl) (by exact fun _ _ _ h => h) (Or.inr ⟨by rfl, rfl⟩) (by assumption) ?_
                      try simp only [Act.put, qsA, qsB, qsC]
                      refine wpAnyH_take (i := 6) (v := undef) (by simp only [qgA, qgB, qgC]; rfl) (by kernel_rfl) (by kernel_rfl) (by kernel_rfl) (by exact fun _ _ _ h => h) (Or.inr ⟨by rfl, rfl⟩) (by assumption) ?_
                      try simp only [Act.put, qsA, qsB, qsC]
                      refine wpAnyH_take (i := 7) (v := undef) (by simp only [qgA, qgB, qgC]; rfl) (by kernel_rfl) (by kernel_rfl) (by kernel_rfl) (by exact fun _ _ _ h => h) (Or.inr ⟨by rfl, rfl⟩) (by assumption) ?_
                      try simp only [Act.put, qsA, qsB, qsC]
                      refine wpAnyH_take (i := 8) (v := undef) (by simp only [qgA, qgB, qgC]; rfl) (by kernel_rfl) (by kernel_rfl) (by kernel_rfl) (by exact fun _ _ _ h => h) (Or.inr ⟨by rfl, rfl⟩) (by assumption) ?_
                      try simp only [Act.put, qsA, qsB, qsC]
                      refine wpAnyH_take (i := 9) (v := undef) (by simp only [qgA, qgB, qgC]; rfl) (by kernel_rfl) (by kernel_rfl) (by kernel_rfl) (by exact fun _ _ _ h => h) (Or.inr ⟨by rfl, rfl⟩) (by assumption) ?_
                      try simp only [Act.put, qsA, qsB, qsC]
                      refine wpAnyH_ready (rs := [10]) (by kernel_rfl) (by simp) ?_
                      refine AllReadyH.cons rfl (fun K hK => ?_) AllReadyH.nil
                      go_simp
                      refine hK.out _ _ (HS25.out _ (Keeps.refl [] W3).drew.kv0) (fun hHeld2 => ?_)
                      clear hK K hHeld
                      try simp only [Act.put, qsA, qsB, qsC]
                      refine wpAnyH_take (i := 11) (by simp only [qgA, qgB, qgC]; rfl) (by kernel_rfl) (by kernel_rfl) (by kernel_rfl) (by exact fun _ _ _ h => h) (Or.inl ⟨by rfl, by intro w hSw; (try dsimp only at hSw); first | (go_simp; done) | (go_simp; with_reducible rfl)⟩) (by assumption) ?_
                      try simp only [Act.put, qsA, qsB, qsC]
                      refine wpAnyH_take (i := 12) (by simp only [qgA, qgB, qgC]; rfl) (by kernel_rfl) (by kernel_rfl) (by kernel_rfl) (by exact fun _ _ _ h => h) (Or.inl ⟨by rfl, by intro w hSw; (try dsimp only at hSw); first | (go_simp; done) | (go_simp; with_reducible rfl)⟩) (by assumption) ?_
                      try simp only [Act.put, qsA, qsB, qsC]
                      refine wpAnyH_done (by kernel_rfl) ?_ _
                      go_wp2_with fail
                      go_roundg (q - (m + 1))
                      case measure => have := HG5.out; omega
                      case rel => exact ⟨m + 1, _, rfl, by go_num, by omega, by rw [HNXT.out, List.map_append, List.map_singleton], by rw [HSST.out, HALL2.out, ← HSAME.out, Bool.false_and], HNX3.out.kv R (Keeps.refl [] W3).drew.kv0⟩
                  · have hdm : decide ((m : Int) < (q : Int)) = false := by simpa using hmlt
                    obtain rfl : m = q := by omega
                    have b0 := HNX.out.rc.bx.sb
                    have s0 := cell_of_block b0 0
                    have z0 := free_of_block b0 0
                    simp at s0
                    have hdone := HNX.out.done R
                    have HDN := Lib.hid hdone
                    clear hdone b0
                    go_wp2_with fail
                    revert HDN
                    generalize (wr.setCell ⟨w.heap.size + 1 + 1 + 1, 0, none⟩ (.slice (some ⟨gn, 0, none⟩) m m)) = W4
                    intro HDN
                    have htk : ts.take m = ts := List.take_of_length_le (by have := HTL.out; omega)
                    have hsk : ss.take m = ss := List.take_of_length_le (by have := HSL.out; omega)
                    have hdn := HDN.out
                    have hsb := HSAME.out
                    rw [htk] at hdn hsb
                    rw [hsk] at hsb
                    have HDN := Lib.hid hdn
                    have e2 : W4.drew.cell? ⟨gb, 2, none⟩ = some .nilFunc := by
                      have := cell_of_block hdn.inv.gbk 2
                      simpa using this
                    clear htk hsk hdn s0 z0 HNX HSAME
                    have hneq : ∀ W : World, (binOp BinOp.neq 67 .nilFunc .nilFunc).run Tryz.prog W = .ok (.bool false) W := fun W => by kernel_rfl
                    cases smb with
                    | true =>
                      have hry := HRY.out
                      rw [← hsb, if_pos rfl] at hry
                      have HRZ := Lib.hid hry
                      clear hry hsb HRY
                      refine wp_region_held_drew (S := (fun W => W.cell? ⟨gb, 2, none⟩ = some .nilFunc)) (by kernel_rfl) ?_ (fun hHeld => ?_)
                      · exact e2
                      refine wpAnyH_take (i := 0) (by simp only [qgA, qgC]; rfl) (by kernel_rfl) (by kernel_rfl) (by kernel_rfl) (by exact fun _ _ _ h => h) (Or.inl ⟨by rfl, by intro w hSw; (try dsimp only at hSw); first | (go_simp; done) | (go_simp; with_reducible rfl)⟩) (by assumption) ?_
                      try simp only [Act.put, qsA, qsB, qsC]
                      refine wpAnyH_take (i := 1) (by simp only [qgA, qgB, qgC]; rfl) (by kernel_rfl) (by kernel_rfl) (by kernel_rfl) (by exact fun _ _ _ h => h) (Or.inl ⟨by rfl, by intro w hSw; (try dsimp only at hSw); first | (go_simp; done) | (go_simp; with_reducible rfl)⟩) (by assumption) ?_
                      try simp only [Act.put, qsA, qsB, qsC]
                      refine wpAnyH_take (i := 2) (by simp only [qgA, qgB, qgC]; rfl) (by kernel_rfl) (by kernel_rfl) (by kernel_rfl) (by exact fun _ _ _ h => h) (Or.inl ⟨by rfl, by intro w hSw; (try dsimp only at hSw); first | (go_simp; done) | (go_simp; with_reducible rfl)⟩) (by assumption) ?_
                      try simp only [Act.put, qsA, qsB, qsC]
                      refine wpAnyH_take (i := 3) (by simp only [qgA, qgB, qgC]; rfl) (by kernel_rfl) (by kernel_rfl) (by kernel_rfl) (by exact fun _ _ _ h => h) (Or.inl ⟨by rfl, by intro w hSw; (try dsimp only at hSw); first | (go_simp; done) | (go_simp; with_reducible rfl)⟩) (by assumption) ?_
                      try simp only [Act.put, qsA, qsB, qsC]
                      refine wpAnyH_take (i := 4) (by simp only [qgA, qgB, qgC]; rfl) (by kernel_rfl) (by kernel_rfl) (by kernel_rfl) (by exact fun _ _ _ h => h) (Or.inl ⟨by rfl, by intro w hSw; (try dsimp only at hSw); first | (go_simp; done) | (go_simp; with_reducible rfl)⟩) (by assumption) ?_
                      try simp only [Act.put, qsA, qsB, qsC]
                      refine wpAnyH_take (i := 5) (by simp only [qgA, qgB, qgC]; rfl) (by kernel_rfl) (by kernel_rfl) (by kernel_rfl) (by exact fun _ _ _ h => h) (Or.inl ⟨by rfl, by intro w hSw; (try dsimp only at hSw); first | (go_simp; done) | (go_simp; with_reducible rfl)⟩) (by assumption) ?_
                      try simp only [Act.put, qsA, qsB, qsC]
                      refine wpAnyH_take (i := 6) (v := undef) (by simp only [qgA, qgB, qgC]; rfl) (by kernel_rfl) (by kernel_rfl) (by kernel_rfl) (by exact fun _ _ _ h => h) (Or.inr ⟨by rfl, rfl⟩) (by assumption) ?_
                      try simp only [Act.put, qsA, qsB, qsC]
                      refine wpAnyH_take (i := 7) (v := undef) (by simp only [qgA, qgB, qgC]; rfl) (by kernel_rfl) (by kernel_rfl) (by kernel_rfl) (by exact fun _ _ _ h => h) (Or.inr ⟨by rfl, rfl⟩) (by assumption) ?_
                      try simp only [Act.put, qsA, qsB, qsC]
                      refine wpAnyH_take (i := 8) (v := undef) (by simp only [qgA, qgB, qgC]; rfl) (by kernel_rfl) (by kernel_rfl) (by kernel_rfl) (by exact fun _ _ _ h => h) (Or.inr ⟨by rfl, rfl⟩) (by assumption) ?_
                      try simp only [Act.put, qsA, qsB, qsC]
                      refine wpAnyH_take (i := 9) (v := undef) (by simp only [qgA, qgB, qgC]; rfl) (by kernel_rfl) (by kernel_rfl) (by kernel_rfl) (by exact fun _ _ _ h => h) (Or.inr ⟨by rfl, rfl⟩) (by assumption) ?_
                      try simp only [Act.put, qsA, qsB, qsC]
                      refine wpAnyH_take (i := 10) (v := undef) (by simp only [qgA, qgB, qgC]; rfl) (by kernel_rfl) (by kernel_rfl) (by kernel_rfl) (by exact fun _ _ _ h => h) (Or.inr ⟨by rfl, rfl⟩) (by assumption) ?_
                      try simp only [Act.put, qsA, qsB, qsC]
                      refine wpAnyH_take (i := 11) (v := undef) (by simp only [qgA, qgB, qgC]; rfl) (by kernel_rfl) (by kernel_rfl) (by kernel_rfl) (by exact fun _ _ _ h => h) (Or.inr ⟨by rfl, rfl⟩) (by assumption) ?_
                      try simp only [Act.put, qsA, qsB, qsC]
                      refine wpAnyH_take (i := 12) (v := undef) (by simp only [qgA, qgB, qgC]; rfl) (by kernel_rfl) (by kernel_rfl) (by kernel_rfl) (by exact fun _ _ _ h => h) (Or.inr ⟨by rfl, rfl⟩) (by assumption) ?_
                      try simp only [Act.put, qsA, qsB, qsC]
                      refine wpAnyH_take (i := 13) (v := undef) (by simp only [qgA, qgB, qgC]; rfl) (by kernel_rfl) (by kernel_rfl) (by kernel_rfl) (by exact fun _ _ _ h => h) (Or.inr ⟨by rfl, rfl⟩) (by assumption) ?_
                      try simp only [Act.put, qsA, qsB, qsC]
                      refine wpAnyH_take (i := 15) (v := undef) (by simp only [qgA, qgB, qgC]; rfl) (by kernel_rfl) (by kernel_rfl) (by kernel_rfl) (by exact fun _ _ _ h => h) (Or.inr ⟨by rfl, rfl⟩) (by assumption) ?_
                      try simp only [Act.put, qsA, qsB, qsC]
                      refine wpAnyH_take (i := 16) (v := undef) (by simp only [qgA, qgB, qgC]; rfl) (by kernel_rfl) (by kernel_rfl) (by kernel_rfl) (by exact fun _ _ _ h => h) (Or.inr ⟨by rfl, rfl⟩) (by assumption) ?_
                      try simp only [Act.put, qsA, qsB, qsC]
                      refine wpAnyH_ready (rs := [14]) (by kernel_rfl) (by simp) ?_
                      refine AllReadyH.cons rfl (fun K hK => ?_) AllReadyH.nil
                      go_simp
                      refine hK.out _ _ e2 (fun hHeld2 => ?_)
                      clear hK K
                      try simp only [Act.put, qsA, qsB, qsC]
                      refine wpAnyH_ready (rs := [17]) (by kernel_rfl) (by simp) ?_
                      refine AllReadyH.cons rfl (fun K hK => ?_) AllReadyH.nil
                      go_simp
                      refine hK.out _ _ e2 (fun hHeld2 => ?_)
                      clear hK K
                      try simp only [Act.put, qsA, qsB, qsC]
                      refine wpAnyH_ready (rs := [18]) (by kernel_rfl) (by simp) ?_
                      refine AllReadyH.cons rfl (fun K hK => ?_) AllReadyH.nil
                      go_simp
                      refine hK.out _ _ e2 (fun hHeld2 => ?_)
                      clear hK K
                      try simp only [Act.put, qsA, qsB, qsC]
                      refine wpAnyH_take (i := 19) (v := undef) (by simp only [qgA, qgB, qgC]; rfl) (by kernel_rfl) (by kernel_rfl) (by kernel_rfl) (by exact fun _ _ _ h => h) (Or.inr ⟨by rfl, rfl⟩) (by assumption) ?_
                      try simp only [Act.put, qsA, qsB, qsC]
                      refine wpAnyH_take (i := 20) (by simp only [qgA, qgB, qgC]; rfl) (by kernel_rfl) (by kernel_rfl) (by kernel_rfl) (by exact fun _ _ _ h => h) (Or.inl ⟨by rfl, by intro w hSw; (try dsimp only at hSw); first | (go_simp; done) | (go_simp; with_reducible rfl)⟩) (by assumption) ?_
                      try simp only [Act.put, qsA, qsB, qsC]
                      refine wpAnyH_done (by kernel_rfl) ?_ _
                      clear hneq e2
                      go_wp2_with fail
                      have HKW := Lib.hid (((Keeps.refl [] W4).drew.drew).kv0)
                      have hgw := HDN.out.kv R HKW.out
                      have hbnd := bind_any (p := p) (vf := vf) (ns := gNames g) (ss := ts.map (gen stq.S env)) (by rw [List.length_map, HTL.out]; exact hgw.bx) (R.blk hgw.stp.k0 HHI.out hlo HB.out) (HN.out.keep (R.same hgw.stp.k0 HHI.out)) (by rw [List.length_map, HTL.out]; exact HNN.out.symm) (by rw [List.length_map, HTL.out]; exact hgw.row) hgw.inv.env_
                      have HBIND2 := Lib.hid hbnd
                      have HS31 := Lib.hid (fun (W : World) (hW : K0 (ab :: Mw) W4 W) => (⟨(cell_of_block (HDN.out.bx.k0 hW ⟨HDN.out.nin HDN.out.new.1, HDN.out.nin HDN.out.new.2.1, HDN.out.nin HDN.out.new.2.2.1⟩).yb 0).trans (by simp), (cell_of_block (R.blk (HDN.out.stp.k0.transM hW) HHI.out hlo HB.out) 3).trans (by simp)⟩ : W.cell? ⟨w.heap.size, 0, none⟩ = some (.pointer (some ⟨b, 0, none⟩)) ∧ W.cell? ⟨b, 3, none⟩ = some vf))
                      clear hbnd hgw
                      refine wp_region_held_drew (S := (fun W => W.cell? ⟨w.heap.size, 0, none⟩ = some (.pointer (some ⟨b, 0, none⟩)) ∧ W.cell? ⟨b, 3, none⟩ = some vf)) (by kernel_rfl) ?_ (fun hHeld => ?_)
                      · exact HS31.out _ (HKW.out.k0.mono (by simp))
                      refine wpAnyH_take (i := 0) (by simp only [qgA, qgC]; rfl) (by kernel_rfl) (by kernel_rfl) (by kernel_rfl) (by exact fun _ _ _ h => h) (Or.inl ⟨by rfl, by intro w hSw; (try dsimp only at hSw); first | (go_simp; done) | (go_simp; with_reducible rfl)⟩) (by assumption) ?_
                      try simp only [Act.put, qsA, qsB, qsC]
                      refine wpAnyH_take (i := 1) (by simp only [qgA, qgB, qgC]; rfl) (by kernel_rfl) (by kernel_rfl) (by kernel_rfl) (by exact fun _ _ _ h => h) (Or.inl ⟨by rfl, by intro w hSw; (try dsimp only at hSw); first | (go_simp; done) | (go_simp; with_reducible rfl)⟩) (by assumption) ?_
                      try simp only [Act.put, qsA, qsB, qsC]
                      refine wpAnyH_take (i := 2) (by simp only [qgA, qgB, qgC]; rfl) (by kernel_rfl) (by kernel_rfl) (by kernel_rfl) (by exact fun _ _ _ h => h) (Or.inl ⟨by rfl, by intro w hSw; (try dsimp only at hSw); first | (go_simp; done) | (go_simp; with_reducible rfl)⟩) (by assumption) ?_
                      try simp only [Act.put, qsA, qsB, qsC]
                      refine wpAnyH_take (i := 3) (by simp only [qgA, qgB, qgC]; rfl) (by kernel_rfl) (by kernel_rfl) (by kernel_rfl) (by exact fun _ _ _ h => h) (Or.inl ⟨by rfl, by intro w hSw; (try dsimp only at hSw); first | (go_simp; done) | (go_simp; with_reducible rfl)⟩) (by assumption) ?_
                      try simp only [Act.put, qsA, qsB, qsC]
                      refine wpAnyH_take (i := 4) (by simp only [qgA, qgB, qgC]; rfl) (by kernel_rfl) (by kernel_rfl) (by kernel_rfl) (by exact fun _ _ _ h => h) (Or.inl ⟨by rfl, by intro w hSw; (try dsimp only at hSw); first | (go_simp; done) | (go_simp; with_reducible rfl)⟩) (by assumption) ?_
                      try simp only [Act.put, qsA, qsB, qsC]
                      refine wpAnyH_take (i := 5) (by simp only [qgA, qgB, qgC]; rfl) (by kernel_rfl) (by kernel_rfl) (by kernel_rfl) (by exact fun _ _ _ h => h) (Or.inl ⟨by rfl, by intro w hSw; (try dsimp only at hSw); first | (go_simp; done) | (go_simp; with_reducible rfl)⟩) (by assumption) ?_
                      try simp only [Act.put, qsA, qsB, qsC]
                      refine wpAnyH_ready (rs := [6]) (by kernel_rfl) (by simp) ?_
                      refine AllReadyH.cons rfl (fun K hK => ?_) AllReadyH.nil
                      go_simp
                      refine HBIND2.out.mono ?_
                      rintro e w6 ⟨v6, rfl, henv6, hk6⟩
                      have HK6 := Lib.hid (HKW.out.trans0 hk6.kv0)
                      have HENV6 := Lib.hid henv6
                      obtain ⟨a6, rfl⟩ := henv6.shape
                      clear hk6 henv6
                      go_wp2_with fail
                      refine hK.out _ _ (HS31.out _ (HK6.out.k0.mono (by simp))) (fun hHeld2 => ?_)
                      clear hK K hHeld
                      try simp only [Act.put, qsA, qsB, qsC]
                      have hg6 := HDN.out.kv R HK6.out
                      have HG6 := Lib.hid hg6
                      have I6 : Inv a B lo hi gb ab fuel .nilFunc wst vbq stq (bindAll (gNames g) (ts.map (gen stq.S env)) env) (.pointer a6) w6 := ⟨hg6.inv.gl, hg6.inv.gbk, hg6.inv.hi_, hg6.inv.eng, HENV6.out, hg6.inv.wat⟩
                      have HC6 := Lib.hid (HFOR.out _ _ r HRZ.out _ w6 vf _ I6 (R.expr hg6.stp.k0 HHI.out HF.out))
                      clear hg6 I6
                      refine wpAnyH_ready (rs := [7]) (by kernel_rfl) (by simp) ?_
                      refine AllReadyH.cons rfl (fun K hK => ?_) AllReadyH.nil
                      go_simp
                      refine HC6.out.mono ?_
                      intro e w7 hp
                      rcases r with ⟨f, l⟩ | ⟨u, st7⟩
                      · obtain ⟨kf, hkf, rfl, rfl, hk0, hw⟩ := hp
                        go_wp2
                        exact ⟨rfl, kf, hkf, rfl, rfl, HG6.out.stp.k0.transM hk0, hw⟩
                      · obtain ⟨v7, vb7, rfl, hty7, hst7, he7, hw7⟩ := hp
                        have HT7 := Lib.hid hty7
                        have HS7 := Lib.hid hst7
                        have HE7 := Lib.hid he7
                        have HW7 := Lib.hid hw7
                        obtain ⟨vt7, vp7, rfl⟩ : ∃ vt vp, v7 = .iface vt vp := by rcases hty7.shape with ⟨_, rfl⟩ | ⟨_, rfl⟩ <;> exact ⟨_, _, rfl⟩
                        clear hty7 hst7 he7 hw7 HC6 hHeld2
                        go_wp2_with fail
                        refine hK.out _ _ (HS31.out _ ((HK6.out.k0.mono (by simp)).transM HS7.out.k0)) (fun hHeld => ?_)
                        clear hK K
                        try simp only [Act.put, qsA, qsB, qsC]
                        refine wpAnyH_take (i := 8) (by simp only [qgA, qgB, qgC]; rfl) (by kernel_rfl) (by kernel_rfl) (by kernel_rfl) (by exact fun _ _ _ h => h) (Or.inl ⟨by rfl, by intro w hSw; (try dsimp only at hSw); first | (go_simp; done) | (go_simp; with_reducible rfl)⟩) (by assumption) ?_
                        try simp only [Act.put, qsA, qsB, qsC]
                        refine wpAnyH_done (by kernel_rfl) ?_ _
                        go_wp2_with fail
                        go_ret
                        exact ⟨_, vb7, rfl, HT7.out, HG6.out.stp.trans HS7.out, HE7.out, HW7.out⟩
                    | false =>
                      have hry := HRY.out
                      rw [← hsb, if_neg (by simp)] at hry
                      have HRZ := Lib.hid hry
                      clear hry hsb HRY
                      refine wp_region_held_drew (S := (fun W => W.cell? ⟨gb, 2, none⟩ = some .nilFunc)) (by kernel_rfl) ?_ (fun hHeld => ?_)
                      · exact e2
                      refine wpAnyH_take (i := 0) (by simp only [qgA, qgC]; rfl) (by kernel_rfl) (by kernel_rfl) (by kernel_rfl) (by exact fun _ _ _ h => h) (Or.inl ⟨by rfl, by intro w hSw; (try dsimp only at hSw); first | (go_simp; done) | (go_simp; with_reducible rfl)⟩) (by assumption) ?_
                      try simp only [Act.put, qsA, qsB, qsC]
                      refine wpAnyH_take (i := 1) (by simp only [qgA, qgB, qgC]; rfl) (by kernel_rfl) (by kernel_rfl) (by kernel_rfl) (by exact fun _ _ _ h => h) (Or.inl ⟨by rfl, by intro w hSw; (try dsimp only at hSw); first | (go_simp; done) | (go_simp; with_reducible rfl)⟩) (by assumption) ?_
                      try simp only [Act.put, qsA, qsB, qsC]
                      refine wpAnyH_take (i := 2) (by simp only [qgA, qgB, qgC]; rfl) (by kernel_rfl) (by kernel_rfl) (by kernel_rfl) (by exact fun _ _ _ h => h) (Or.inl ⟨by rfl, by intro w hSw; (try dsimp only at hSw); first | (go_simp; done) | (go_simp; with_reducible rfl)⟩) (by assumption) ?_
                      try simp only [Act.put, qsA, qsB, qsC]
                      refine wpAnyH_take (i := 3) (by simp only [qgA, qgB, qgC]; rfl) (by kernel_rfl) (by kernel_rfl) (by kernel_rfl) (by exact fun _ _ _ h => h) (Or.inl ⟨by rfl, by intro w hSw; (try dsimp only at hSw); first | (go_simp; done) | (go_simp; with_reducible rfl)⟩) (by assumption) ?_
                      try simp only [Act.put, qsA, qsB, qsC]
                      refine wpAnyH_take (i := 4) (by simp only [qgA, qgB, qgC]; rfl) (by kernel_rfl) (by kernel_rfl) (by kernel_rfl) (by exact fun _ _ _ h => h) (Or.inl ⟨by rfl, by intro w hSw; (try dsimp only at hSw); first | (go_simp; done) | (go_simp; with_reducible rfl)⟩) (by assumption) ?_
                      try simp only [Act.put, qsA, qsB, qsC]
                      refine wpAnyH_take (i := 5) (by simp only [qgA, qgB, qgC]; rfl) (by kernel_rfl) (by kernel_rfl) (by kernel_rfl) (by exact fun _ _ _ h => h) (Or.inl ⟨by rfl, by intro w hSw; (try dsimp only at hSw); first | (go_simp; done) | (go_simp; with_reducible rfl)⟩) (by assumption) ?_
                      try simp only [Act.put, qsA, qsB, qsC]
                      refine wpAnyH_take (i := 6) (v := undef) (by simp only [qgA, qgB, qgC]; rfl) (by kernel_rfl) (by kernel_rfl) (by kernel_rfl) (by exact fun _ _ _ h => h) (Or.inr ⟨by rfl, rfl⟩) (by assumption) ?_
                      try simp only [Act.put, qsA, qsB, qsC]
                      refine wpAnyH_take (i := 7) (v := undef) (by simp only [qgA, qgB, qgC]; rfl) (by kernel_rfl) (by kernel_rfl) (by kernel_rfl) (by exact fun _ _ _ h => h) (Or.inr ⟨by rfl, rfl⟩) (by assumption) ?_
                      try simp only [Act.put, qsA, qsB, qsC]
                      refine wpAnyH_take (i := 8) (v := undef) (by simp only [qgA, qgB, qgC]; rfl) (by kernel_rfl) (by kernel_rfl) (by kernel_rfl) (by exact fun _ _ _ h => h) (Or.inr ⟨by rfl, rfl⟩) (by assumption) ?_
                      try simp only [Act.put, qsA, qsB, qsC]
                      refine wpAnyH_take (i := 9) (v := undef) (by simp only [qgA, qgB, qgC]; rfl) (by kernel_rfl) (by kernel_rfl) (by kernel_rfl) (by exact fun _ _ _ h => h) (Or.inr ⟨by rfl, rfl⟩) (by assumption) ?_
                      try simp only [Act.put, qsA, qsB, qsC]
                      refine wpAnyH_take (i := 10) (v := undef) (by simp only [qgA, qgB, qgC]; rfl) (by kernel_rfl) (by kernel_rfl) (by kernel_rfl) (by exact fun _ _ _ h => h) (Or.inr ⟨by rfl, rfl⟩) (by assumption) ?_
                      try simp only [Act.put, qsA, qsB, qsC]
                      refine wpAnyH_take (i := 11) (v := undef) (by simp only [qgA, qgB, qgC]; rfl) (by kernel_rfl) (by kernel_rfl) (by kernel_rfl) (by exact fun _ _ _ h => h) (Or.inr ⟨by rfl, rfl⟩) (by assumption) ?_
                      try simp only [Act.put, qsA, qsB, qsC]
                      refine wpAnyH_take (i := 12) (v := undef) (by simp only [qgA, qgB, qgC]; rfl) (by kernel_rfl) (by kernel_rfl) (by kernel_rfl) (by exact fun _ _ _ h => h) (Or.inr ⟨by rfl, rfl⟩) (by assumption) ?_
                      try simp only [Act.put, qsA, qsB, qsC]
                      refine wpAnyH_take (i := 13) (v := undef) (by simp only [qgA, qgB, qgC]; rfl) (by kernel_rfl) (by kernel_rfl) (by kernel_rfl) (by exact fun _ _ _ h => h) (Or.inr ⟨by rfl, rfl⟩) (by assumption) ?_
                      try simp only [Act.put, qsA, qsB, qsC]
                      refine wpAnyH_take (i := 15) (v := undef) (by simp only [qgA, qgB, qgC]; rfl) (by kernel_rfl) (by kernel_rfl) (by kernel_rfl) (by exact fun _ _ _ h => h) (Or.inr ⟨by rfl, rfl⟩) (by assumption) ?_
                      try simp only [Act.put, qsA, qsB, qsC]
                      refine wpAnyH_take (i := 16) (v := undef) (by simp only [qgA, qgB, qgC]; rfl) (by kernel_rfl) (by kernel_rfl) (by kernel_rfl) (by exact fun _ _ _ h => h) (Or.inr ⟨by rfl, rfl⟩) (by assumption) ?_
                      try simp only [Act.put, qsA, qsB, qsC]
                      refine wpAnyH_ready (rs := [14]) (by kernel_rfl) (by simp) ?_
                      refine AllReadyH.cons rfl (fun K hK => ?_) AllReadyH.nil
                      go_simp
                      refine hK.out _ _ e2 (fun hHeld2 => ?_)
                      clear hK K
                      try simp only [Act.put, qsA, qsB, qsC]
                      refine wpAnyH_ready (rs := [17]) (by kernel_rfl) (by simp) ?_
                      refine AllReadyH.cons rfl (fun K hK => ?_) AllReadyH.nil
                      go_simp
                      refine hK.out _ _ e2 (fun hHeld2 => ?_)
                      clear hK K
                      try simp only [Act.put, qsA, qsB, qsC]
                      refine wpAnyH_ready (rs := [18]) (by kernel_rfl) (by simp) ?_
                      refine AllReadyH.cons rfl (fun K hK => ?_) AllReadyH.nil
                      go_simp
                      refine hK.out _ _ e2 (fun hHeld2 => ?_)
                      clear hK K
                      try simp only [Act.put, qsA, qsB, qsC]
                      refine wpAnyH_take (i := 19) (v := undef) (by simp only [qgA, qgB, qgC]; rfl) (by kernel_rfl) (by kernel_rfl) (by kernel_rfl) (by exact fun _ _ _ h => h) (Or.inr ⟨by rfl, rfl⟩) (by assumption) ?_
                      try simp only [Act.put, qsA, qsB, qsC]
                      refine wpAnyH_take (i := 20) (by simp only [qgA, qgB, qgC]; rfl) (by kernel_rfl) (by kernel_rfl) (by kernel_rfl) (by exact fun _ _ _ h => h) (Or.inl ⟨by rfl, by intro w hSw; (try dsimp only at hSw); first | (go_simp; done) | (go_simp; with_reducible rfl)⟩) (by assumption) ?_
                      try simp only [Act.put, qsA, qsB, qsC]
                      refine wpAnyH_done (by kernel_rfl) ?_ _
                      clear hneq e2
                      go_wp2_with fail
                      go_roundg k
                      case measure => have := HG2.out; omega
                      case rel => exact ⟨k, no + 1, gn, vbq, stq, ts.map (gen stq.S env), rfl, by go_num, by omega, by rw [List.length_map]; exact HTL.out, HRZ.out, HDN.out.kv R (Keeps.refl [] W4).drew.kv0⟩
end Go.Proofs.YtpbplpnifjbkoabGreatDoor

/-
  The parser's 'rec', by contract.
-/
import Derived.Test.YtpbplpnifjbkoabGreatDoorRecl
import Derived.Deep.LoopGhost
import Derived.Deep.RegionLaw
import Derived.Deep.RegionWith
import Derived.RegionDies
import Derived.Deep.Cut
namespace Go.Proofs.YtpbplpnifjbkoabGreatDoor
open Go.RowKit

theorem infoStr : (Tryz.prog.info? 9).map (fun i => (i.zero, i.size, i.bytes)) = some (some (.string ⟨#[]⟩), 1, 16) := by kernel_rfl
theorem infoExpr : (Tryz.prog.info? 108).map (fun i => (i.zero, i.size, i.bytes)) = some (some .nilIface, 1, 16) := by kernel_rfl

/-- What a reader's state says of the cells that the walk reads. -/
theorem PC.cells {s : ByteArray} {r t : Nat} {ts : List Tok} {w : World} (h : PC s r t ts w) : w.cell? ⟨r, 0, none⟩ = some (.pointer (some ⟨t, 0, none⟩)) ∧ w.cell? ⟨t, 4, none⟩ = some (.int .i64 (headPos ts)) ∧ w.cell? ⟨t, 2, none⟩ = some (.string (bs (kstr (headKind ts)))) := by
  obtain ⟨hd, hat, hn, hts⟩ := h.rd.ex
  obtain ⟨e1, e2, e3⟩ := headOf hts
  rw [e1, e3]
  exact ⟨cell_of_block h.ptr 0, cell_of_block hat 4, cell_of_block hat 2⟩

theorem PC.drew {s : ByteArray} {r t : Nat} {ts : List Tok} {w : World} (h : PC s r t ts w) : PC s r t ts w.drew := ⟨⟨h.rd.ex, h.rd.fit⟩, h.ptr, h.ne, h.lt⟩
theorem RecSt.drew {s : ByteArray} {r t : Nat} {w0 : World} {p : Int} {es : List (Bytes × Exp)} {ns : List Bytes} {vs : List Value} {sn sl : Value} {ts : List Tok} {w : World} (h : RecSt s r t w0 p es ns vs sn sl ts w) :
    RecSt s r t w0 p es ns vs sn sl ts w.drew := ⟨h.pc.drew, h.kp.drew, h.blk, h.rn, h.rl, h.bn.keep (fun _ _ _ _ _ => rfl) (Nat.le_refl _) (fun _ hx => .inl hx) (fun _ hx => .inl hx), h.tlt, h.rlt⟩
/-- The node is whole. -/
theorem RecSt.finish {s : ByteArray} {r t : Nat} {w0 : World} {p : Nat} {es : List (Bytes × Exp)} {vs : List Value} {sn sl : Value} {ts : List Tok} {w : World} (h : RecSt s r t w0 p es (es.map (·.1)) vs sn sl ts w) {lo : Nat} {b : Exp} {ty bb : Nat}
    (hlo : w0.heap.size + 1 ≤ lo) (hv : ExprAt w lo w.heap.size b [] [] (ifp ty bb)) :
    ExprAt (w.setCell ⟨w0.heap.size, 3, none⟩ (ifp ty bb)) w0.heap.size (w.setCell ⟨w0.heap.size, 3, none⟩ (ifp ty bb)).heap.size (.recr p (wrap es (.fin b))) [] [] (ifp 218 w0.heap.size) ∧
      PC s r t ts (w.setCell ⟨w0.heap.size, 3, none⟩ (ifp ty bb)) ∧ Keeps [t] w0 (w.setCell ⟨w0.heap.size, 3, none⟩ (ifp ty bb)) := by
  have ht := h.tlt
  have hr := h.rlt
  have hb0 := lt_of_some h.blk
  have hsz : (w.setCell ⟨w0.heap.size, 3, none⟩ (ifp ty bb)).heap.size = w.heap.size := by simp [World.setCell]
  have hk : Keeps [w0.heap.size] w (w.setCell ⟨w0.heap.size, 3, none⟩ (ifp ty bb)) := (Keeps.refl _ w).setCell (Or.inl (by simp)) _
  have hfar : ∀ b, w0.heap.size + 1 ≤ b → b < w.heap.size → (w.setCell ⟨w0.heap.size, 3, none⟩ (ifp ty bb)).heap[b]? = w.heap[b]? := fun b h1 h2 => hk.block b h2 (by simp; omega)
  have hrow : ∀ {E : TypeId} {v : Value} {n : Nat} {xs : List Value}, w.ownsRow (w0.heap.size + 1) E 1 v n xs → n = xs.length → RowAt (w.setCell ⟨w0.heap.size, 3, none⟩ (ifp ty bb)) w0.heap.size w.heap.size E v xs := by
    intro E v n xs ho hn
    subst hn
    exact ((RowAt.of_owns ho).keep hfar).widen (by omega) (Nat.le_refl _)
  refine ⟨?_, h.pc.keep hk (by simp; omega) (by simp; omega), h.kp.setCell (Or.inr (Nat.le_refl _)) _⟩
  rw [hsz]
  refine ⟨rfl, rfl, w0.heap.size, es.map (·.1), vs, sn, sl, ifp ty bb, Nat.le_refl _, hb0, rfl, ?_, ?_, ?_, ?_⟩
  · have := block_setCell h.blk 3 (ifp ty bb)
    simpa using this
  · exact hrow h.rn (by simp)
  · exact hrow h.rl (by have := h.rl.1; omega)
  · refine ExprAt.widen (by omega) (Nat.le_refl _) _ _ _ _ (ExprAt.keep hfar _ _ _ _ (h.bn.done (ExprAt.widen hlo (Nat.le_refl _) _ _ _ _ hv)))
theorem Res.bind_assoc {α β γ : Type} (r : Res α) (f : α → List Tok → Res β) (g : β → List Tok → Res γ) : (r.bind f).bind g = r.bind fun a ts => (f a ts).bind g := by
  unfold Res.bind
  rcases r with _ | (_ | ⟨a, ts⟩) <;> rfl

/-- A row's value, and where its elements lie. -/
theorem ownsRow_shape {w : World} {base : Nat} {e : TypeId} {v : Value} {n : Nat} {xs : List Value} (h : w.ownsRow base e 1 v n xs) :
    ∃ ad cap, v = .slice ad n cap ∧ ∀ j, j < n → ∃ g, ad = some ⟨g, 0, none⟩ ∧ w.cell? ⟨g, j, none⟩ = xs[j]? := by
  rcases h.2 with ⟨rfl, rfl⟩ | ⟨g, cap, cur, rfl, h2, h3, h4, h5, h6, h7⟩
  · exact ⟨none, 0, rfl, fun j hj => by omega⟩
  · refine ⟨_, cap, rfl, fun j hj => ⟨g, rfl, World.ownsRow.cellAt h j (by omega)⟩⟩

set_option maxRecDepth 100000 in
set_option maxHeartbeats 4000000 in
theorem rec_any (s : ByteArray) (r t n : Nat) (hn : n ≤ 65536) (ih : ∀ m, m ≤ n → ExpIH s r t m) (ts : List Tok) (p : Nat) (w0 : World) (res : Except Nat (Exp × List Tok)) (hC0 : PC s r t ts w0)
    (hres : pRec n [] ts = some res) : Calls Tryz.prog 130 #[.pointer (some ⟨r, 0, none⟩), .int .i64 (p : Nat)] w0 (PPost s r t w0 (Exp.recr p) res) := by
  have ht0 := hC0.lt
  have hr0 := hC0.rlt
  have HC0 := Lib.hid hC0
  have HR0 := Lib.hid hres
  have HIH := Lib.hid ih
  clear hC0 hres ih
  go_enter Tryz.func130, Tryz.ntmps130
  go_wp2_with fail
  go_loopg [6] (2 * n + 2) (fun g v6 wx => ∃ es vs m ts' sn sl, RecSt s r t w0 p es (es.map (·.1)) vs sn sl ts' wx ∧ m + es.length ≤ n ∧
    ((v6 = .bool true ∧ g = 2 * m + 2 ∧ ((pRec m (es.map (·.1)) ts').bind fun g ts => some (.ok (wrap es g, ts))) = some res) ∨
     (v6 = .bool false ∧ g = 2 * m + 1 ∧ ((want .kIn ts').bind fun _ ts => (pExp m ts).bind fun b ts => some (.ok (wrap es (.fin b), ts))) = some res)))
  case atStart =>
    refine ⟨[], [], n, ts, .slice none 0 0, .slice none 0 0, ⟨HC0.out.keep ((Keeps.refl [] w0).alloc _) (by simp) (by simp), (Keeps.refl [t] w0).alloc _, block_alloc _ _, World.ownsRow_nil _ _ _ _, World.ownsRow_nil _ _ _ _, rfl, ht0, hr0⟩, by simp, .inl ⟨rfl, rfl, ?_⟩⟩
    rw [show List.map (·.1) ([] : List (Bytes × Exp)) = [] from rfl, HR0.out]
    unfold Res.bind wrap
    rcases res with _ | ⟨_, _⟩ <;> rfl
  case round =>
    obtain ⟨es, vs, m, ts', sn, sl, hst, hm, hcase⟩ := hrel
    have HS := Lib.hid hst
    have HM := Lib.hid hm
    obtain ⟨c0, c4, c2⟩ := hst.pc.cells
    clear hm hst c2
    rcases hcase with ⟨rfl, hg, hR⟩ | ⟨rfl, hg, hR⟩
    · have HG := Lib.hid hg
      obtain ⟨k, rfl⟩ : ∃ k, m = k + 1 := by
        cases m with
        | zero => simp [pRec, Res.bind] at hR
        | succ k => exact ⟨k, rfl⟩
      simp only [pRec, Res.bind_assoc] at hR
      have HR := Lib.hid hR
      clear hR hg
      go_wp2_with fail
      rcases want_cases HR.out with ⟨hne, rfl⟩ | ⟨heq, hrs⟩
      · refine (want_no HS.out.pc.rd .name _ rfl hne).mono ?_
        rintro e w' ⟨rfl, rfl⟩
        exact ⟨rfl, perr HS.out.kp⟩
      refine (want_yes kwExpFn HS.out.pc.rd .name _ rfl heq).mono ?_
      rintro e w1 ⟨rfl, hr, hk⟩
      have HS1 := Lib.hid (HS.out.step hk (HS.out.pc.of_rd hk (hr (by decide) (by decide))))
      clear hr hk heq c0 c4
      obtain ⟨x, hx⟩ : ∃ x, x = headText ts' := ⟨_, rfl⟩
      rw [← hx] at hrs ⊢
      obtain ⟨ns, hns⟩ : ∃ ns, ns = es.map (·.1) := ⟨_, rfl⟩
      rw [← hns] at hrs HS1
      have hnl : ns.length = es.length := by rw [hns]; simp
      have HNS := Lib.hid hns
      have HX := Lib.hid hx
      have HR1 := Lib.hid hrs
      have HNL := Lib.hid hnl
      have cn : w1.cell? ⟨w0.heap.size, 1, none⟩ = some sn := cell_of_block HS1.out.blk 1
      obtain ⟨ad, cap, rfl, hcell⟩ := ownsRow_shape HS1.out.rn
      have HCE := Lib.hid hcell
      clear hns hx hrs hnl HS hcell
      go_wp2_with fail
      go_loopg [38] ns.length (fun gg i wx => ∃ j : Nat, gg = ns.length - j ∧ i = .int .i64 j ∧ j ≤ ns.length ∧ (∀ q, q < j → ns[q]? ≠ some x) ∧ w1 = wx)
      case atStart => exact ⟨0, rfl, rfl, by omega, fun q hq => by omega, rfl⟩
      case round =>
        obtain ⟨j, hgj, rfl, hj, hnq, rfl⟩ := hrel
        have HGJ := Lib.hid hgj
        have HNQ := Lib.hid hnq
        clear hgj hnq
        by_cases hlt : j < ns.length
        · have hjb : j < 65536 := by have := HNL.out; have := HM.out; omega
          obtain ⟨g, rfl, hc⟩ := HCE.out j hlt
          rw [List.getElem?_map, List.getElem?_eq_getElem hlt] at hc
          simp only [Option.map_some] at hc
          have hdl : decide ((j : Int) < (ns.length : Int)) = true := by simpa using hlt
          by_cases he : ns[j] = x
          · have hq : ((bs ns[j]).toList == (bs x).toList) = true := by rw [bs_beq]; simpa using he
            go_wp2_with fail
            refine (fail_any _ _).mono ?_
            rintro e w' ⟨rfl, rfl⟩
            have hrs := HR1.out
            rw [if_pos (by rw [← he]; exact List.getElem_mem hlt)] at hrs
            obtain rfl : res = .error (headPos ts') := by simpa [Res.bind] using hrs.symm
            exact ⟨rfl, perr HS1.out.kp⟩
          · have hq : ((bs ns[j]).toList == (bs x).toList) = false := by rw [bs_beq]; simpa using he
            go_wp2_with fail
            go_roundg (ns.length - (j + 1))
            case measure => have := HGJ.out; omega
            case rel =>
              refine ⟨j + 1, rfl, by go_num, by omega, fun q hq' => ?_, rfl⟩
              rcases Nat.lt_or_eq_of_le (Nat.le_of_lt_succ hq') with h | rfl
              · exact HNQ.out q h
              · rw [List.getElem?_eq_getElem hlt]; simpa using he
        · have hdl : decide ((j : Int) < (ns.length : Int)) = false := by simpa using hlt
          have hni : x ∉ ns := by
            intro hm
            obtain ⟨q, hq, hqe⟩ := List.getElem_of_mem hm
            exact HNQ.out q (by omega) (by rw [List.getElem?_eq_getElem hq, hqe])
          have hrs := HR1.out
          rw [if_neg hni] at hrs
          simp only [Res.bind_assoc] at hrs
          have HR2 := Lib.hid hrs
          clear hrs
          obtain ⟨c0, c4, c2⟩ := HS1.out.pc.cells
          clear c2 c4
          clear hdl cn
          have HCN := Lib.hid HNQ
          clear HNQ HCN
          go_wp2_with fail
          rcases want_cases HR2.out with ⟨hne, rfl⟩ | ⟨heq, hrs⟩
          · refine (want_no HS1.out.pc.rd .eqs _ rfl hne).mono ?_
            rintro e w' ⟨rfl, rfl⟩
            exact ⟨rfl, perr HS1.out.kp⟩
          refine (want_yes kwExpFn HS1.out.pc.rd .eqs _ rfl heq).mono ?_
          rintro e w2 ⟨rfl, hr, hk⟩
          have HS2 := Lib.hid (HS1.out.step hk (HS1.out.pc.of_rd hk (hr (by decide) (by decide))))
          have HR3 := Lib.hid hrs
          clear hr hk heq hrs c0 HS1 HCE
          have cn : w2.cell? ⟨w0.heap.size, 1, none⟩ = some (.slice ad ns.length cap) := cell_of_block HS2.out.blk 1
          have fn : w2.frozen? ⟨w0.heap.size, 1, none⟩ = false := free_of_block HS2.out.blk 1
          have hb0 : w0.heap.size < w2.heap.size := lt_of_some HS2.out.blk
          obtain ⟨ib, hib, hib0, hib1, hib2⟩ := info_parts infoStr
          go_wp2_with (at_builtin; go_must (refine wpList_append_lies _ rfl _ _ 27 rfl (w0.heap.size + 1) 9 ib (.string ⟨#[]⟩) 1 16 Tryz.underlying27 hib hib0 hib1 hib2 rfl (by decide) _ _ _ rfl (HS2.out.rn.alloc _) ⟨w2.heap.size, 0, none⟩ 1 1 [.string (bs x)] rfl rfl ?c1 ?c2 (by decide) ?c3 ?c4 ?c5 _ rfl ?_))
          case c1 => exact cells_new w2 [.string (bs x)] 9
          case c2 => intro u hu; simp at hu; subst hu; rfl
          case c3 => have := HNL.out; have := HM.out; unfold maxLen; omega
          case c4 => have := HNL.out; have := HM.out; omega
          case c5 => simp; omega
          intro g cp w3 hown hgr hlg hlt
          have hb3 := (hgr.block _ (show w0.heap.size < _ by simp; omega) (fun e => absurd (HS2.out.rn.lt _ e.symm).1 (by omega))).trans (block_alloc_old HS2.out.blk)
          have fn3 : w3.frozen? ⟨w0.heap.size, 1, none⟩ = false := free_of_block hb3 1
          have cn3 : w3.cell? ⟨w0.heap.size, 1, none⟩ = some (.slice ad ns.length cap) := cell_of_block hb3 1
          clear hb3
          have HS3 := Lib.hid (HS2.out.name x ((Keeps.refl [] w2).alloc _) g cp hown hgr (hlg.imp id (fun h => by omega)) hlt)
          clear hown hgr hlg hlt cn fn hb0
          go_wp2_with fail
          clear fn3 cn3 hib hib0 hib1 hib2
          revert HS3
          generalize w3.setCell ⟨w0.heap.size, 1, none⟩ (.slice (some ⟨g, 0, none⟩) (ns.length + 1) cp) = W
          intro HS3
          obtain ⟨ib, hib, hib0, hib1, hib2⟩ := info_parts infoExpr
          rcases bind_some HR3.out with ⟨pp, hp, rfl⟩ | ⟨a, ts3, hp, hrs⟩
          · have cl : W.drew.cell? ⟨w0.heap.size, 2, none⟩ = some sl := cell_of_block HS3.out.blk 2
            go_region_dies
            all_goals (refine (HIH.out k (by have := HM.out; omega) _ _ _ HS3.out.pc.drew hp).mono ?_; rintro e w' ⟨rfl, hk⟩; exact ⟨rfl, perr (HS3.out.kp.drew.trans hk (fun m hm => Or.inl hm))⟩)
          · have HSD := Lib.hid HS3.out.drew
            have cl : W.drew.cell? ⟨w0.heap.size, 2, none⟩ = some sl := cell_of_block HSD.out.blk 2
            go_region_law (first
                | (refine step_append_lies _ rfl (.tmp 67) (.tmp 70) 205 rfl (w0.heap.size + 1) 108 ib .nilIface 1 16 Tryz.underlying205 hib hib0 hib1 hib2 rfl (by decide) sl es.length vs (by simp [Act.eval]) (HS4.out.rl.alloc _) ⟨w4.heap.size, 0, none⟩ 1 1 [ifp ty bb] (by simp [Act.eval]) rfl (cells_new w4 [ifp ty bb] 108) (by intro u hu; simp at hu; subst hu; rfl) (by decide) (by have := HM.out; unfold maxLen; omega) (by have := HM.out; omega) (by have := lt_of_some HS4.out.blk; simp; omega) _ rfl ?_
                   intro g5 c5 w5 hown hgr hlg hlt
                   have hb5 := (hgr.block _ (show w0.heap.size < _ by have := lt_of_some HS4.out.blk; simp; omega) (fun e => absurd (HS4.out.rl.lt _ e.symm).1 (by omega))).trans (block_alloc_old HS4.out.blk)
                   have fn5 : w5.frozen? ⟨w0.heap.size, 2, none⟩ = false := free_of_block hb5 2
                   have cn5 : w5.cell? ⟨w0.heap.size, 2, none⟩ = some sl := cell_of_block hb5 2
                   clear hb5)
                | (go_simp; go_at_call 87; refine (HIH.out k (by have := HM.out; omega) _ _ _ HSD.out.pc hp).mono ?_; rintro e w4 ⟨ty, bb, rfl, hv, hC, hk⟩
                   have HS4 := Lib.hid (HSD.out.step hk hC)
                   have HV4 := Lib.hid hv
                   have HK4 := Lib.hid hk
                   have HC4 := Lib.hid hC
                   have cl4 : w4.cell? ⟨w0.heap.size, 2, none⟩ = some sl := cell_of_block HS4.out.blk 2
                   have bl4 : w0.heap.size < w4.heap.size := lt_of_some HS4.out.blk
                   clear hv hk hC))
            all_goals
              have HS6 := Lib.hid (HSD.out.body x a (ifp ty bb) HK4.out HC4.out HV4.out ((Keeps.refl [] w4).alloc _) g5 c5 hown hgr (hlg.imp id (fun h => Nat.le_trans (by simp) (Nat.le_of_eq h.symm))) hlt)
              clear cl cl4 bl4 fn5 cn5 hown hgr hlg hlt hib hib0 hib1 hib2
              revert HS6
              generalize w5.setCell ⟨w0.heap.size, 2, none⟩ (.slice (some ⟨g5, 0, none⟩) (es.length + 1) c5) = V
              intro HS6
              obtain ⟨c0, c4, c2⟩ := HS6.out.pc.cells
              clear c2 c4
              have HRR := Lib.hid hrs
              clear hrs
              have hmap : (es ++ [(x, a)]).map (·.1) = ns ++ [x] := by rw [HNS.out]; simp
              have HMAP := Lib.hid hmap
              clear hmap
              go_wp2_with fail
              by_cases hand : headKind ts3 = .kAnd
              · refine (take_yes kwExpFn HS6.out.pc.rd .kAnd _ rfl hand (by decide) (by decide)).mono ?_
                rintro e w7 ⟨rfl, hr, hk⟩
                have HS7 := Lib.hid (HS6.out.step hk (HS6.out.pc.of_rd hk hr))
                clear hr hk
                have hrs := HRR.out
                rw [if_pos hand, Res.bind_assoc] at hrs
                have HR7 := Lib.hid hrs
                clear hrs
                go_wp2_with fail
                go_roundg (2 * k + 2)
                case measure => have := HG.out; omega
                case rel =>
                  refine ⟨es ++ [(x, a)], _, k, _, _, _, by rw [HMAP.out]; exact HS7.out, by have := HM.out; simp; omega, .inl ⟨rfl, rfl, ?_⟩⟩
                  rw [HMAP.out, ← HR7.out]
                  congr 1
                  funext g ts
                  simp [Res.bind, wrap_snoc]
              · refine (take_no HS6.out.pc.rd .kAnd _ rfl hand).mono ?_
                rintro e w' ⟨rfl, rfl⟩
                have hrs := HRR.out
                rw [if_neg hand] at hrs
                simp only [Res.bind_assoc] at hrs
                have HR7 := Lib.hid hrs
                clear hrs
                go_wp2_with fail
                go_roundg (2 * k + 1)
                case measure => have := HG.out; omega
                case rel =>
                  refine ⟨es ++ [(x, a)], _, k, _, _, _, by rw [HMAP.out]; exact HS6.out, by have := HM.out; simp; omega, .inr ⟨rfl, rfl, ?_⟩⟩
                  rw [← HR7.out]
                  congr 1
                  funext g ts
                  congr 1
                  funext g ts
                  simp [Res.bind, wrap_snoc]
    · have HR := Lib.hid hR
      clear hR hg c4
      go_wp2_with fail
      rcases want_cases HR.out with ⟨hne, rfl⟩ | ⟨heq, hrs⟩
      · refine (want_no HS.out.pc.rd .kIn _ rfl hne).mono ?_
        rintro e w' ⟨rfl, rfl⟩
        exact ⟨rfl, perr HS.out.kp⟩
      refine (want_yes kwExpFn HS.out.pc.rd .kIn _ rfl heq).mono ?_
      rintro e w1 ⟨rfl, hr, hk⟩
      have HS1 := Lib.hid (HS.out.step hk (HS.out.pc.of_rd hk (hr (by decide) (by decide))))
      clear hr hk heq c0
      go_wp2_with fail
      rcases bind_some hrs with ⟨pp, hp, rfl⟩ | ⟨b, ts3, hp, hrs⟩
      · refine (HIH.out m (by have := HM.out; omega) _ _ _ HS1.out.pc hp).mono ?_
        rintro e w' ⟨rfl, hk⟩
        exact ⟨rfl, perr (HS1.out.kp.trans hk (fun m hm => Or.inl hm))⟩
      refine (HIH.out m (by have := HM.out; omega) _ _ _ HS1.out.pc hp).mono ?_
      rintro e w2 ⟨ty, bb, rfl, hv, hC, hk⟩
      have HS2 := Lib.hid (HS1.out.step hk hC)
      have HV2 := Lib.hid hv
      have hsz := hk.size
      have hb0 : w0.heap.size < w1.heap.size := lt_of_some HS1.out.blk
      obtain rfl : res = .ok (wrap es (.fin b), ts3) := by simpa using hrs.symm
      clear hv hC hk hrs hp
      have cc : w2.cell? ⟨w0.heap.size, 3, none⟩ = some .nilIface := cell_of_block HS2.out.blk 3
      have fc : w2.frozen? ⟨w0.heap.size, 3, none⟩ = false := free_of_block HS2.out.blk 3
      go_wp2
      go_ret
      exact ⟨_, _, rfl, HS2.out.finish (by omega) HV2.out⟩
end Go.Proofs.YtpbplpnifjbkoabGreatDoor

/-
  The document's parser: a name, =, what it stands for.
-/
import Derived.Test.YtpbplpnifjbkoaaDoorRlam
import Derived.Deep.LoopGhost
namespace Go.Proofs.YtpbplpnifjbkoaaDoor
open Go.RowKit

theorem NSt.mark {r : Nat} {w0 : World} {op : Bytes} {p : Int} {ns : List Bytes} {vs : List Value} {es : List Exp} {sn sl : Value} {s : Except Nat (List Tok)} {w : World} (h : NSt r w0 op p ns vs es sn sl s w) {ts : List Tok} {q : Nat} {v : Value}
    (hm : RC r ts (q : Nat) (w.setCell ⟨r, 2, none⟩ v)) : NSt r w0 op p ns vs es sn sl (.error q) (w.setCell ⟨r, 2, none⟩ v) :=
  h.step ((Keeps.refl [r] w).setCell (Or.inl (by simp)) _) ⟨ts, hm⟩ (fun _ e => by cases e)
/-- A name that is there already is wrong. -/
def dupS (l : List Bytes) (s s1 : Except Nat (List Tok)) : Except Nat (List Tok) :=
  match s, s1 with
  | .ok ts, .ok _ => if headText ts ∈ l then .error (headPos ts) else s1
  | _, _ => s1
theorem RSt.open {r : Nat} {s : Except Nat (List Tok)} {w : World} (h : RSt r s w) : ∃ (ts : List Tok) (b : Int), RC r ts b w ∧ ((b = -1 ∧ s = .ok ts) ∨ (∃ p : Nat, b = p ∧ s = .error p)) := by
  cases s with
  | ok ts => exact ⟨ts, -1, h, .inl ⟨rfl, rfl⟩⟩
  | error p => obtain ⟨ts, h⟩ := h; exact ⟨ts, p, h, .inr ⟨p, rfl, rfl⟩⟩

theorem dup_zero (s s1 : Except Nat (List Tok)) : dupS [] s s1 = s1 := by
  unfold dupS
  split
  · simp
  · rfl
theorem dup_ne {l : List Bytes} {m x : Bytes} {s : Except Nat (List Tok)} (hx : ∀ ts, s = .ok ts → headKind ts = .name → x = headText ts) (h : m ≠ x) : dupS (l ++ [m]) s (wantS .name s) = dupS l s (wantS .name s) := by
  unfold dupS
  cases s with
  | error p => rfl
  | ok ts =>
    by_cases hn : headKind ts = .name
    · have := hx ts rfl hn
      subst this
      simp only [wantS, hn, if_true, List.mem_append, List.mem_singleton, Ne.symm h, or_false]
    · simp [wantS, hn]
theorem dup_err {l : List Bytes} {m : Bytes} {s s1 : Except Nat (List Tok)} {p : Nat} (h : dupS l s s1 = .error p) : dupS (l ++ [m]) s s1 = .error p := by
  unfold dupS at h ⊢
  cases s with
  | error q => exact h
  | ok ts =>
    cases s1 with
    | error q => exact h
    | ok t1 =>
      simp only at h ⊢
      split at h
      · rename_i hm; rw [if_pos (List.mem_append_left _ hm)]; exact h
      · cases h
theorem dup_ok {l : List Bytes} {x : Bytes} {s : Except Nat (List Tok)} (hx : ∀ ts, s = .ok ts → headKind ts = .name → x = headText ts) {t : List Tok} (h : dupS l s (wantS .name s) = .ok t) :
    ∃ ts, s = .ok ts ∧ dupS (l ++ [x]) s (wantS .name s) = .error (headPos ts) := by
  cases s with
  | error q => cases h
  | ok ts =>
    refine ⟨ts, rfl, ?_⟩
    by_cases hn : headKind ts = .name
    · have := hx ts rfl hn
      subst this
      simp [dupS, wantS, hn]
    · simp [dupS, wantS, hn] at h

set_option maxRecDepth 100000 in
set_option maxHeartbeats 4000000 in
theorem rbound_any {r n : Nat} {w0 : World} {op : Bytes} {p : Int} {ns : List Bytes} {vs : List Value} {es : List Exp} {sn sl : Value} {s : Except Nat (List Tok)} {w : World} (ih : RExpIH r n)
    (h : NSt r w0 op p ns vs es sn sl s w) (hn : ns.length ≤ 65536) (hv : vs.length ≤ 65536) {res : Except Nat (Exp × List Tok)} (hres : bindS (wantS .eqs (dupS ns s (wantS .name s))) (pExp n) = some res) :
    Calls Tryd.prog 50 #[.pointer (some ⟨r, 0, none⟩), .pointer (some ⟨w0.heap.size, 0, none⟩)] w fun e w' => e = .returned (.tuple #[]) ∧ ∃ sn' sl' x va, NSt r w0 op p (ns ++ [x]) (vs ++ [va]) (es ++ [expOf res]) sn' sl' (stOf res) w' ∧ ∀ ts, s = .ok ts → headKind ts = .name → x = headText ts := by
  have HN := Lib.hid h
  have HR := Lib.hid hres
  have HIH := Lib.hid ih
  obtain ⟨ts, b, hrc, hb⟩ := h.st.open
  have HB := Lib.hid hb
  obtain ⟨g, n', cap, kk, x0, c0, c1, c2, hlt, t0, t1, hx, t2, hn'⟩ := hrc.cells
  have hr : r < w.heap.size := lt_of_cell c0
  have hg : g < w.heap.size := lt_of_cell t0
  clear h hres ih hrc hb hx
  go_enter Tryd.func50, Tryd.ntmps50
  go_wp2_with fail
  go_region
  clear c0 c1 c2 hlt t0 t1 t2
  have N0 := Lib.hid HN.out.drew
  clear HN
  go_wp2_with fail
  refine (rneed_st N0.out.st .name _ rfl (by decide) (by decide)).mono ?_
  rintro e w1 ⟨x, rfl, hst, hk, hx⟩
  have N1 := Lib.hid (N0.out.step hk hst wantS_ok)
  have HX := Lib.hid hx
  clear hst hk hx N0
  have cn : w1.cell? ⟨w0.heap.size, 1, none⟩ = some sn := cell_of_block N1.out.nd.blk 1
  obtain ⟨ad, cap2, rfl, hcell⟩ := ownsRow_shape N1.out.nd.rn
  have HCE := Lib.hid hcell
  clear hcell
  go_wp2_with fail
  clear cn HCE
  go_loopg [26] ns.length (fun gg i wx => ∃ j : Nat, gg = ns.length - j ∧ i = .int .i64 j ∧ j ≤ ns.length ∧ NSt r w0 op p ns vs es (.slice ad ns.length cap2) sl (dupS (ns.take j) s (wantS .name s)) wx)
  case atStart => exact ⟨0, rfl, rfl, Nat.zero_le _, by rw [List.take_zero, dup_zero]; exact N1.out⟩
  case round =>
    obtain ⟨j, hgj, rfl, hj, hst⟩ := hrel
    have HGJ := Lib.hid hgj
    have HS := Lib.hid hst
    clear hgj hst N1
    by_cases hlt : j < ns.length
    · obtain ⟨ad', cap', e, hcell⟩ := ownsRow_shape HS.out.nd.rn
      cases e
      obtain ⟨g, rfl, hc⟩ := hcell j hlt
      rw [List.getElem?_map, List.getElem?_eq_getElem hlt] at hc
      simp only [Option.map_some] at hc
      have hjb : j < 65536 := by omega
      have hdl : decide ((j : Int) < (ns.length : Int)) = true := by simpa using hlt
      have ht : ns.take (j + 1) = ns.take j ++ [ns[j]] := by rw [List.take_succ_eq_append_getElem hlt]
      have HT := Lib.hid ht
      clear hcell ht
      by_cases he : ns[j] = x
      · have hq : ((bs ns[j]).toList == (bs x).toList) = true := by rw [bs_beq]; simpa using he
        have HE := Lib.hid he
        obtain ⟨t1, b1, hrc, hb⟩ := HS.out.st.open
        obtain ⟨g1, n1, cap1, kk1, x1, d0, d1, d2, _⟩ := hrc.cells
        have f2 := hrc.frozen 2
        have hr1 : r < wr.heap.size := lt_of_cell d2
        clear he d0 d1
        rcases hb with ⟨rfl, hd⟩ | ⟨q, rfl, hd⟩
        · have HD := Lib.hid hd
          have HRC := Lib.hid hrc
          clear hd hrc
          go_wp2_with fail
          go_roundg (ns.length - (j + 1))
          case measure => have := HGJ.out; omega
          case rel =>
            refine ⟨j + 1, rfl, by go_num, by omega, ?_⟩
            obtain ⟨ts', hs, hd'⟩ := dup_ok HX.out HD.out
            rw [HT.out, HE.out, hd']
            have hp : headPos ts' = headPos ts := by
              rcases HB.out with ⟨_, h⟩ | ⟨_, _, h⟩
              · rw [h] at hs; cases hs; rfl
              · rw [h] at hs; cases hs
            rw [hp]
            exact HS.out.mark HRC.out.mark
        · have HD := Lib.hid hd
          have hdq : decide ((q : Int) < 0) = false := by simp
          clear hd hrc
          go_wp2_with fail
          go_roundg (ns.length - (j + 1))
          case measure => have := HGJ.out; omega
          case rel =>
            refine ⟨j + 1, rfl, by go_num, by omega, ?_⟩
            rw [HT.out, dup_err HD.out, ← HD.out]
            exact HS.out
      · have hq : ((bs ns[j]).toList == (bs x).toList) = false := by rw [bs_beq]; simpa using he
        have HE := Lib.hid he
        clear he
        go_wp2_with fail
        go_roundg (ns.length - (j + 1))
        case measure => have := HGJ.out; omega
        case rel =>
          refine ⟨j + 1, rfl, by go_num, by omega, ?_⟩
          rw [HT.out, dup_ne HX.out HE.out]
          exact HS.out
    · have hdl : decide ((j : Int) < (ns.length : Int)) = false := by simpa using hlt
      have hj' : ns.take j = ns := List.take_of_length_le (by omega)
      rw [hj'] at HS
      clear hj'
      go_wp2_with fail
      refine (rneed_st HS.out.st .eqs _ rfl (by decide) (by decide)).mono ?_
      rintro e w2 ⟨y2, rfl, hst, hk, _⟩
      have N2 := Lib.hid (HS.out.step hk hst wantS_ok)
      clear hst hk HS
      have cn : w2.cell? ⟨w0.heap.size, 1, none⟩ = some (.slice ad ns.length cap2) := cell_of_block N2.out.nd.blk 1
      have fn : w2.frozen? ⟨w0.heap.size, 1, none⟩ = false := free_of_block N2.out.nd.blk 1
      have hb0 : w0.heap.size < w2.heap.size := lt_of_some N2.out.nd.blk
      obtain ⟨ib, hib, hib0, hib1, hib2⟩ := info_parts infoStr
      go_wp2_with (at_builtin; go_must (refine wpList_append_lies _ rfl _ _ 39 rfl (w0.heap.size + 1) 9 ib (.string ⟨#[]⟩) 1 16 Tryd.underlying39 hib hib0 hib1 hib2 rfl (by decide) _ _ _ rfl (N2.out.nd.rn.alloc _) ⟨w2.heap.size, 0, none⟩ 1 1 [.string (bs x)] rfl rfl ?c1 ?c2 (by decide) ?c3 ?c4 ?c5 _ rfl ?_))
      case c1 => exact cells_new w2 [.string (bs x)] 9
      case c2 => intro u hu; simp at hu; subst hu; rfl
      case c3 => unfold maxLen; omega
      case c4 => omega
      case c5 => simp; omega
      intro g3 c3 w3 hown hgr hlg hlt
      have hb3 := (hgr.block _ (show w0.heap.size < _ by simp; omega) (fun e => absurd (N2.out.nd.rn.lt _ e.symm).1 (by omega))).trans (block_alloc_old N2.out.nd.blk)
      have fn3 : w3.frozen? ⟨w0.heap.size, 1, none⟩ = false := free_of_block hb3 1
      have cn3 : w3.cell? ⟨w0.heap.size, 1, none⟩ = some (.slice ad ns.length cap2) := cell_of_block hb3 1
      clear hb3
      have N3 := Lib.hid (N2.out.name x ((Keeps.refl [] w2).alloc _) g3 c3 hown hgr (hlg.imp id (fun h => Nat.le_trans (by simp) (Nat.le_of_eq h.symm)))).drew
      clear hown hgr hlg hlt cn fn hb0 N2
      go_wp2_with fail
      clear fn3 cn3 hib hib0 hib1 hib2
      revert N3
      generalize w3.setCell ⟨w0.heap.size, 1, none⟩ (.slice (some ⟨g3, 0, none⟩) (ns.length + 1) c3) = W3
      intro N3
      have cl : W3.drew.cell? ⟨w0.heap.size, 2, none⟩ = some (sl) := cell_of_block N3.out.nd.blk 2
      have bz : w0.heap.size < W3.drew.heap.size := lt_of_some N3.out.nd.blk
      obtain ⟨ib, hib, hib0, hib1, hib2⟩ := info_parts infoPExp
      go_region_law (first
        | (refine step_append_lies _ rfl _ _ 75 rfl (w0.heap.size + 1) 31 ib (.pointer none) 1 8 Tryd.underlying75 hib hib0 hib1 hib2 rfl (by decide) (sl) vs.length vs (by simp [Act.eval]) ((M7.out).nd.rl.alloc _) ⟨u7.heap.size, 0, none⟩ 1 1 [.pointer (some ⟨b7, 0, none⟩)] (by simp [Act.eval]) rfl (cells_new u7 [.pointer (some ⟨b7, 0, none⟩)] 31) (by intro u hu; simp at hu; subst hu; rfl) (by decide) (by unfold maxLen; first | decide | omega) (by first | decide | omega) (by have := lt_of_some (M7.out).nd.blk; simp; omega) _ rfl ?_
           intro g7 c7 v7 hown hgr hlg hlt
           have hb5 := (hgr.block _ (show w0.heap.size < _ by have := lt_of_some (M7.out).nd.blk; simp; omega) (fun e => absurd ((M7.out).nd.rl.lt _ e.symm).1 (by omega))).trans (block_alloc_old (M7.out).nd.blk)
           have fn5 : v7.frozen? ⟨w0.heap.size, 2, none⟩ = false := free_of_block hb5 2
           have cn5 : v7.cell? ⟨w0.heap.size, 2, none⟩ = some (sl) := cell_of_block hb5 2
           clear hb5)
        | (go_simp; go_at_call 25; refine (rexp_st HIH.out N3.out.st HR.out).mono ?_; rintro e u7 hpost
           obtain ⟨b7, rfl, hk, hst, hv⟩ := hpost.parts
           have M7 := Lib.hid (N3.out.step hk hst (stOf_ok HR.out))
           have P7 := Lib.hid (And.intro hk (And.intro hst hv))
           have cn3 : u7.cell? ⟨w0.heap.size, 2, none⟩ = some (sl) := cell_of_block (M7.out).nd.blk 2
           have bz3 : w0.heap.size < u7.heap.size := lt_of_some (M7.out).nd.blk
           clear hst hk hv hpost))
      all_goals
        have NE := Lib.hid (show NSt r w0 op _ (ns ++ [x]) (vs ++ [.pointer (some ⟨b7, 0, none⟩)]) (es ++ [expOf res]) (.slice (some ⟨g3, 0, none⟩) (ns.length + 1) c3) (.slice (some ⟨g7, 0, none⟩) (vs.length + 1) c7) (stOf res) (v7.setCell ⟨w0.heap.size, 2, none⟩ (.slice (some ⟨g7, 0, none⟩) (vs.length + 1) c7)) from
          N3.out.part (expOf res) (.pointer (some ⟨b7, 0, none⟩)) P7.out.1 P7.out.2.1 (fun ts' e => ⟨stOf_ok HR.out ts' e, P7.out.2.2 ts' e⟩) ((Keeps.refl [] u7).alloc _) g7 c7 hown hgr (hlg.imp id (fun h => Nat.le_trans (by simp) (Nat.le_of_eq h.symm))))
        clear cl bz hib hib0 hib1 hib2 cn3 bz3 hown hgr hlg hlt fn5 cn5 M7 P7 N3
        go_wp2_with fail
        revert NE
        generalize v7.setCell ⟨w0.heap.size, 2, none⟩ (.slice (some ⟨g7, 0, none⟩) (vs.length + 1) c7) = X7
        intro NE
        go_wp2
        go_end0
        exact ⟨rfl, _, _, x, _, NE.out, HX.out⟩
end Go.Proofs.YtpbplpnifjbkoaaDoor

/-
  The document's tokens, by contract.
-/
import Derived.Test.YtpbplpnifjbkoaaDoorRtoks
namespace Go.Proofs.YtpbplpnifjbkoaaDoor
open Go.RowKit

theorem infoTok : (Tryd.prog.info? 122).map (fun i => (i.zero, i.size, i.bytes)) = some (some (.agg #[.string ⟨#[]⟩, .string ⟨#[]⟩, .int .i64 0]), 3, 40) := by kernel_rfl
theorem flat_at (acc : List (Tok × Bytes)) (q r : Nat) (hr : r < 3) : (acc.flatMap tokCells)[q * 3 + r]? = acc[q]?.bind fun x => (tokCells x)[r]? := by
  induction acc generalizing q with
  | nil => simp
  | cons x l ih =>
    rw [List.flatMap_cons]
    cases q with
    | zero =>
      rw [Nat.zero_mul, Nat.zero_add, List.getElem?_append_left (by simp [tokCells]; omega)]
      simp
    | succ q =>
      rw [List.getElem?_append_right (by simp [tokCells]; omega)]
      have : (q + 1) * 3 + r - (tokCells x).length = q * 3 + r := by simp [tokCells]; omega
      rw [this, ih q]
      simp
theorem toksAt_of {w : World} {base g n cap : Nat} {acc : List (Tok × Bytes)} (h : w.ownsRow base 122 3 (.slice (some ⟨g, 0, none⟩) n cap) n (acc.flatMap tokCells)) (hb : ∀ x ∈ acc, x.1.kind ≠ .bad → x.2 = x.1.text) :
    ToksAt g (acc.map (·.1)) w := by
  have hlen := h.1
  have hblk : ∃ cur, w.heap[g]? = some (.cells cur 122 (0, 0)) := by
    rcases h.2 with ⟨h1, _⟩ | ⟨g', cap', cur, h1, h2, h3, _⟩
    · cases h1
    · simp only [Value.slice.injEq, Option.some.injEq, Addr.mk.injEq] at h1
      obtain ⟨⟨rfl, _⟩, _⟩ := h1
      exact ⟨cur, h3⟩
  obtain ⟨cur, hg⟩ := hblk
  refine ⟨⟨cur, _, hg⟩, fun j t ht => ?_⟩
  rw [List.getElem?_map] at ht
  obtain ⟨x, hx, rfl⟩ := Option.map_eq_some_iff.1 ht
  have hlt : j < acc.length := by
    rcases Nat.lt_or_ge j acc.length with h | h
    · exact h
    · rw [List.getElem?_eq_none h] at hx; cases hx
  have hc : ∀ r, r < 3 → w.cell? ⟨g, j * 3 + r, none⟩ = (tokCells x)[r]? := by
    intro r hr
    have hxs : (acc.flatMap tokCells).length = acc.length * 3 := by
      clear hx ht hlen h hlt
      induction acc with
      | nil => rfl
      | cons y l ih => rw [List.flatMap_cons, List.length_append, ih (fun x hx => hb x (List.mem_cons_of_mem _ hx))]; simp [tokCells]; omega
    have := World.ownsRow.cellAt h (j * 3 + r) (by omega)
    rw [flat_at acc j r hr, hx] at this
    exact this
  exact ⟨hc 0 (by omega), ⟨x.2, fun hn => hb x (List.mem_of_getElem? hx) hn, hc 1 (by omega)⟩, hc 2 (by omega)⟩

set_option maxRecDepth 100000 in
set_option maxHeartbeats 4000000 in
theorem rtokens_any (kw : Bytes → Option Kind) (kws : List Bytes) (s : ByteArray) (hs : s.size ≤ 300) (gkw ck : Nat) (w : World) (hk : w.heap[gkw]? = some (.cells (kws.map fun b => Value.string (bs b)).toArray 9 (0, 0))) (hkl : kws.length ≤ 8) (hkw : KwList kw kws) :
    Calls Tryd.prog 23 #[.string s, .slice (some ⟨gkw, 0, none⟩) kws.length ck] w fun e w' => ∃ g n cap : Nat, e = .returned (.slice (some ⟨g, 0, none⟩) n cap) ∧ n = (tokens kw s.data.toList).length ∧ ToksAt g (tokens kw s.data.toList) w' ∧ w.heap.size ≤ g ∧ g < w'.heap.size ∧ Keeps [] w w' := by
  have HK := Lib.hid hk
  have HKW := Lib.hid hkw
  clear hk hkw
  go_enter Tryd.func23, Tryd.ntmps23
  go_wp2_with fail
  go_loopg [5, 6] (s.size + 1) (fun gg v5 v6 wx => ∃ (i : Nat) (acc : List (Tok × Bytes)), v6 = .int .i64 i ∧ i ≤ s.size ∧ s.size - i < gg ∧ acc.length + gg ≤ s.size + 1 ∧ acc.map (·.1) ++ toks kw s.data.toList gg i = tokens kw s.data.toList ∧ (∀ x ∈ acc, x.1.kind ≠ .bad → x.2 = x.1.text) ∧
      wx.ownsRow w.heap.size 122 3 v5 acc.length (acc.flatMap tokCells) ∧ Keeps [] w wx)
  case atStart => exact ⟨0, [], rfl, Nat.zero_le _, by omega, by simp, by simp [tokens], by simp, World.ownsRow_nil _ _ _ _, Keeps.refl _ _⟩
  case round =>
    obtain ⟨i, acc, rfl, hi, hgi, hac, htk, hbad, hown, hkeep⟩ := hrel
    obtain ⟨gO, rfl⟩ : ∃ x, x = gk := ⟨gk, rfl⟩
    have HTK := Lib.hid htk
    have HBD := Lib.hid hbad
    have HOW := Lib.hid hown
    have HKP := Lib.hid hkeep
    clear htk hbad hown hkeep
    go_upto_block 2 with fail
    go_cut [6] (fun v6 wx => ∃ j : Nat, v6 = .int .i64 j ∧ i ≤ j ∧ j ≤ s.size ∧ spanLen isBlank (s.data.toList.drop i) = j - i ∧ (∀ h : j < s.size, isBlank s[j] = false) ∧ wx.ownsRow w.heap.size 122 3 u5 acc.length (acc.flatMap tokCells) ∧ Keeps [] w wx)
    case first =>
        go_wp2_with fail
        go_loopg [6] (s.size - i) (fun gg v wx => ∃ j : Nat, gg = s.size - j ∧ v = .int .i64 j ∧ i ≤ j ∧ j ≤ s.size ∧ spanLen isBlank (s.data.toList.drop i) = (j - i) + spanLen isBlank (s.data.toList.drop j) ∧ wx.ownsRow w.heap.size 122 3 u5 acc.length (acc.flatMap tokCells) ∧ Keeps [] w wx)
        case atStart => exact ⟨i, rfl, rfl, Nat.le_refl _, hi, by simp, HOW.out, HKP.out⟩
        case round =>
          clear HOW HKP
          obtain ⟨j, hg, rfl, hij, hjs, hsp, hown, hkeep⟩ := hrel
          have HG := Lib.hid hg
          have HSP := Lib.hid hsp
          have HOW := Lib.hid hown
          have HKP := Lib.hid hkeep
          clear hg hsp hown hkeep
          by_cases hbl : ∃ h : j < s.size, isBlank s[j] = true
          · obtain ⟨hlt, hbl⟩ := hbl
            have hdl : decide ((j : Int) < (s.size : Int)) = true := by simp; omega
            have hstep : spanLen isBlank (s.data.toList.drop i) = (j + 1 - i) + spanLen isBlank (s.data.toList.drop (j + 1)) := by
              rw [HSP.out, spanLen_true isBlank s.data.toList j (by simpa using hlt) (by rw [ba_get s j hlt]; exact hbl)]
              omega
            have HST := Lib.hid hstep
            clear hstep
            rcases (show s[j].toNat = 32 ∨ s[j].toNat = 10 by unfold isBlank at hbl; simp at hbl; rcases hbl with h | h <;> simp [h]) with h32 | h10
            · have e32 : ((s[j].toNat : Int) == 32) = true := by simp [h32]
              clear h32 hbl
              go_wp2_with fail
              go_roundg (s.size - (j + 1))
              case measure => have := HG.out; omega
              case rel => exact ⟨j + 1, rfl, by go_num, by omega, by omega, HST.out, HOW.out, HKP.out⟩
            · have e32 : ((s[j].toNat : Int) == 32) = false := by simp [h10]
              have e10 : ((s[j].toNat : Int) == 10) = true := by simp [h10]
              clear h10 hbl
              go_wp2_with fail
              go_roundg (s.size - (j + 1))
              case measure => have := HG.out; omega
              case rel => exact ⟨j + 1, rfl, by go_num, by omega, by omega, HST.out, HOW.out, HKP.out⟩
          · have hrun0 : spanLen isBlank (s.data.toList.drop j) = 0 := by
              by_cases hlt : j < s.size
              · refine spanLen_false isBlank _ j (by simpa using hlt) ?_
                rw [ba_get s j hlt]
                cases hb : isBlank s[j]
                · rfl
                · exact absurd ⟨hlt, hb⟩ hbl
              · exact spanLen_end isBlank _ j (by simp; omega)
            have hnb : ∀ h : j < s.size, isBlank s[j] = false := fun h => by
              cases hb : isBlank s[j]
              · rfl
              · exact absurd ⟨h, hb⟩ hbl
            have hrun1 : spanLen isBlank (s.data.toList.drop i) = j - i := by rw [HSP.out, hrun0]; omega
            have HR1 := Lib.hid hrun1
            have HNB := Lib.hid hnb
            clear hrun0 hrun1 hbl
            by_cases hlt : j < s.size
            · have hdl : decide ((j : Int) < (s.size : Int)) = true := by simp; omega
              have hnb := HNB.out hlt
              have e32 : ((s[j].toNat : Int) == 32) = false := by
                unfold isBlank at hnb; simp at hnb ⊢; intro h; apply hnb.1; apply UInt8.toNat_inj.1; simp; omega
              have e10 : ((s[j].toNat : Int) == 10) = false := by
                unfold isBlank at hnb; simp at hnb ⊢; intro h; apply hnb.2; apply UInt8.toNat_inj.1; simp; omega
              clear hnb
              go_wp2_with fail
              go_meet
              exact ⟨j, rfl, hij, hjs, HR1.out, HNB.out, HOW.out, HKP.out⟩
            · have hdl : decide ((j : Int) < (s.size : Int)) = false := by simp; omega
              go_wp2_with fail
              go_meet
              exact ⟨j, rfl, hij, hjs, HR1.out, HNB.out, HOW.out, HKP.out⟩
    case rest =>
      clear HOW HKP
      obtain ⟨j, rfl, hij, hjs, hsp, hnb, hown, hkeep⟩ := hcut
      have HSP := Lib.hid hsp
      have HNB := Lib.hid hnb
      have HOW := Lib.hid hown
      have HKP := Lib.hid hkeep
      clear hsp hnb hown hkeep
      go_upto_block 4 with fail
      have T0 := Lib.hid (show TkW w wc.heap.size j (kstr .bad) [] u5 acc (wc.alloc (.cells #[.string ⟨#[110, 111, 110, 101]⟩, .string ⟨#[]⟩, .int .i64 (j : Nat)] 122)) from
        ⟨block_alloc wc _, HOW.out.alloc _, HKP.out.alloc _, fun e => by have := (HOW.out.lt _ e).2; omega, HKP.out.size⟩)
      revert T0
      generalize wc.alloc (.cells #[.string ⟨#[110, 111, 110, 101]⟩, .string ⟨#[]⟩, .int .i64 (j : Nat)] 122) = W
      generalize wc.heap.size = B
      intro T0
      clear HOW HKP
      refine tok_switch hs hjs T0 ?_
      intro k _ _ _ _ _ _ _ _ _ _ _ _ _ _ _ _ _ _ _ _ _ _ _ _ _ _ _ _ _ _ _ _ _ _ _ _ _ _ _ _ _ _ _ _ _ _ _ _ _ _ _ _ _ _ _ _ _ _ _ _ _ _ _ _ _ _ _ _ _ _ _ _ _ _ _ _ _ _ _ _ _ _ _ _ _ _ _ _ _ _ _ _ wc hcut'
      clear T0
      obtain ⟨hjk, hks, hkr, hT⟩ := hcut'
      revert hkr hT
      generalize hR : rawTok (s.data.toList.drop j) = R
      intro hkr hT
      have HR := Lib.hid hR
      have HKR := Lib.hid hkr
      have HT := Lib.hid hT
      have f1 : wc.frozen? ⟨B, 1, none⟩ = false := free_of_block hT.blk 1
      have c1 : wc.cell? ⟨B, 1, none⟩ = some (.string (bs [])) := cell_of_block hT.blk 1
      have c0 : wc.cell? ⟨B, 0, none⟩ = some (.string (bs R.1)) := cell_of_block hT.blk 0
      have f0 : wc.frozen? ⟨B, 0, none⟩ = false := free_of_block hT.blk 0
      have hBW : B < wc.heap.size := hT.lt
      clear hkr hT hR
      have hex : s.extract j k = bs ((s.data.toList.drop j).take (k - j)) := by
        have := bs_extract s.data.toList j k
        rw [bs_of] at this; exact this
      have HEX := Lib.hid hex
      clear hex
      go_upto_region 28 with fail
      have T1 := Lib.hid (show TkW w B j R.1 ((s.data.toList.drop j).take (k - j)) u5 acc (wc.setCell ⟨B, 1, none⟩ (.string (s.extract j k))) from by rw [HEX.out]; exact HT.out.set1 _)
      revert T1
      generalize wc.setCell ⟨B, 1, none⟩ (.string (s.extract j k)) = W1
      intro T1
      clear c0 c1 f0 f1 hBW HT
      have c0 : W1.cell? ⟨B, 0, none⟩ = some (.string (bs R.1)) := cell_of_block T1.out.blk 0
      have f0 : W1.frozen? ⟨B, 0, none⟩ = false := free_of_block T1.out.blk 0
      have hBW : B < W1.heap.size := T1.out.lt
      obtain ⟨bb, hbb⟩ : ∃ bb, bb = decide ((R.1 = rstr .name ∨ R.1 = rstr .num) ∧ 8 < R.2) := ⟨_, rfl⟩
      have HBB := Lib.hid hbb
      clear hbb
      go_cut [143] (fun v143 wx => v143 = .bool bb ∧ W1 = wx)
      case first =>
          by_cases hn : (bs R.1).toList = [110, 97, 109, 101]
          · have hq1 : ((bs R.1).toList == [110, 97, 109, 101]) = true := by rw [hn]; rfl
            have HN := Lib.hid hn
            clear hn
            go_wp2_with fail
            go_meet
            exact ⟨by rw [HBB.out]; exact bb_name HKR.out HN.out, rfl⟩
          · have hq1 : ((bs R.1).toList == [110, 97, 109, 101]) = false := beq_eq_false_iff_ne.2 hn
            have HN := Lib.hid hn
            clear hn
            by_cases hm : (bs R.1).toList = [110, 117, 109]
            · have hq2 : ((bs R.1).toList == [110, 117, 109]) = true := by rw [hm]; rfl
              have HM := Lib.hid hm
              clear hm
              go_wp2_with fail
              go_meet
              exact ⟨by rw [HBB.out]; exact bb_num HKR.out HM.out, rfl⟩
            · have hq2 : ((bs R.1).toList == [110, 117, 109]) = false := beq_eq_false_iff_ne.2 hm
              have HM := Lib.hid hm
              clear hm
              go_wp2_with fail
              go_meet
              exact ⟨by rw [HBB.out]; exact bb_none HN.out HM.out, rfl⟩
      case rest =>
        obtain ⟨rfl, rfl⟩ := hcut
        go_upto_if 143 with fail
        go_cut [] (fun wx => TkW w B j (raw1 R) ((s.data.toList.drop j).take (k - j)) u5 acc wx)
        case first =>
            by_cases hb : (R.1 = rstr .name ∨ R.1 = rstr .num) ∧ 8 < R.2
            · obtain rfl : bb = true := by rw [HBB.out]; simpa using hb
              have e : raw1 R = kstr .bad := by unfold raw1; rw [if_pos hb]
              have HE := Lib.hid e
              clear hb e
              go_wp2_with fail
              go_meet
              rw [HE.out]
              exact T1.out.set0 _
            · obtain rfl : bb = false := by rw [HBB.out]; simpa using hb
              have e : raw1 R = R.1 := by unfold raw1; rw [if_neg hb]
              have HE := Lib.hid e
              clear hb e
              go_wp2_with fail
              go_meet
              rw [HE.out]
              exact T1.out
        case rest =>
          have T2 := Lib.hid hcut
          clear hcut T1 c0 f0 hBW
          clear HEX HBB
          obtain ⟨X, hX⟩ : ∃ X, X = (s.data.toList.drop j).take (k - j) := ⟨_, rfl⟩
          rw [← hX] at T2
          have HX := Lib.hid hX
          clear hX
          go_wp2_with fail
          go_loopg [147] kws.length (fun gg v wx => ∃ q : Nat, gg = kws.length - q ∧ v = .int .i64 q ∧ q ≤ kws.length ∧ TkW w B j (kwFold (raw1 R) X (kws.take q)) X u5 acc wx)
          case atStart => exact ⟨0, rfl, rfl, Nat.zero_le _, by have e : kwFold (raw1 R) X (kws.take 0) = raw1 R := by { unfold kwFold; rw [if_neg (by simp)] }
                                                                rw [e]; exact T2.out⟩
          case round =>
            clear T2
            obtain ⟨q, hgq, rfl, hq, hT⟩ := hrel
            have HGQ := Lib.hid hgq
            have T3 := Lib.hid hT
            have c0 : wr.cell? ⟨B, 0, none⟩ = some (.string (bs (kwFold (raw1 R) X (kws.take q)))) := cell_of_block hT.blk 0
            have c1 : wr.cell? ⟨B, 1, none⟩ = some (.string (bs X)) := cell_of_block hT.blk 1
            have f0 : wr.frozen? ⟨B, 0, none⟩ = false := free_of_block hT.blk 0
            have hBW : B < wr.heap.size := hT.lt
            have hkb := cell_of_block (hT.kp.some HK.out (by simp)) q
            clear hgq hT
            by_cases hlt : q < kws.length
            · have hdl : decide ((q : Int) < (kws.length : Int)) = true := by simpa using hlt
              have hkc : wr.cell? ⟨gkw, q, none⟩ = some (.string (bs kws[q])) := by rw [hkb]; simp [hlt]
              have htk : kws.take (q + 1) = kws.take q ++ [kws[q]] := by rw [List.take_succ_eq_append_getElem hlt]
              have HT := Lib.hid htk
              clear hkb htk
              by_cases h1 : kwFold (raw1 R) X (kws.take q) = rstr .name
              · by_cases h2 : X = kws[q]
                · have hq1 : ((bs (kwFold (raw1 R) X (kws.take q))).toList == [110, 97, 109, 101]) = true := by rw [bs_toList, h1]; rfl
                  have hq2 : ((bs X).toList == (bs kws[q]).toList) = true := by rw [bs_beq]; simpa using h2
                  have H1 := Lib.hid h1
                  have H2 := Lib.hid h2
                  clear h1 h2
                  go_wp2_with fail
                  go_roundg (kws.length - (q + 1))
                  case measure => have := HGQ.out; omega
                  case rel =>
                    refine ⟨q + 1, rfl, by go_num, by omega, ?_⟩
                    rw [HT.out, kwFold_hit (fun hm => HKW.out.name (List.mem_of_mem_take hm)) H1.out H2.out]
                    exact T3.out.set0 _
                · have hq1 : ((bs (kwFold (raw1 R) X (kws.take q))).toList == [110, 97, 109, 101]) = true := by rw [bs_toList, h1]; rfl
                  have hq2 : ((bs X).toList == (bs kws[q]).toList) = false := by rw [bs_beq]; simpa using h2
                  have H2 := Lib.hid h2
                  clear h1 h2
                  go_wp2_with fail
                  go_roundg (kws.length - (q + 1))
                  case measure => have := HGQ.out; omega
                  case rel =>
                    refine ⟨q + 1, rfl, by go_num, by omega, ?_⟩
                    rw [HT.out, kwFold_miss (.inr H2.out)]
                    exact T3.out
              · have hq1 : ((bs (kwFold (raw1 R) X (kws.take q))).toList == [110, 97, 109, 101]) = false := by rw [bs_toList]; exact beq_eq_false_iff_ne.2 (fun e => h1 e)
                have H1 := Lib.hid h1
                clear h1
                go_wp2_with fail
                go_roundg (kws.length - (q + 1))
                case measure => have := HGQ.out; omega
                case rel =>
                  refine ⟨q + 1, rfl, by go_num, by omega, ?_⟩
                  rw [HT.out, kwFold_miss (.inl H1.out)]
                  exact T3.out
            · have hdl : decide ((q : Int) < (kws.length : Int)) = false := by simpa using hlt
              have hqe : kws.take q = kws := List.take_of_length_le (by omega)
              rw [hqe] at T3 c0
              have c2 : wr.cell? ⟨B, 2, none⟩ = some (.int .i64 (j : Nat)) := cell_of_block T3.out.blk 2
              clear hqe f0 hkb
              obtain ⟨F, hF⟩ : ∃ F, F = kwFold (raw1 R) X kws := ⟨_, rfl⟩
              rw [← hF] at T3 c0
              have HF := Lib.hid hF
              clear hF
              obtain ⟨ib, hib, hib0, hib1, hib2⟩ := info_parts infoTok
              go_wp2_with (at_builtin; go_must (refine wpList_append_lies _ rfl _ _ 67 rfl w.heap.size 122 ib (.agg #[.string ⟨#[]⟩, .string ⟨#[]⟩, .int .i64 0]) 3 40 Tryd.underlying67 hib hib0 hib1 hib2 rfl (by decide) _ _ _ rfl (T3.out.own.alloc _) ⟨wr.heap.size, 0, none⟩ 1 1 [.string (bs F), .string (bs X), .int .i64 (j : Nat)] rfl rfl ?c1 ?c2 (by decide) ?c3 ?c4 ?c5 _ rfl ?_))
              case c1 => exact cells_new wr [.string (bs F), .string (bs X), .int .i64 (j : Nat)] 122
              case c2 => intro u hu; simp at hu; rcases hu with rfl | rfl | rfl <;> rfl
              case c3 => unfold maxLen; omega
              case c4 => omega
              case c5 => have := T3.out.kp.size; simp; omega
              intro g5 c5 w5 hown hgr hlg hlt5
              have hb5 : w5.heap[B]? = some (.cells #[.string (bs F), .string (bs X), .int .i64 (j : Nat)] 122 (0, 0)) := (hgr.block B (by have := T3.out.lt; simp; omega) (fun e => T3.out.far e.symm)).trans (block_alloc_old T3.out.blk)
              have q0 : w5.cell? ⟨B, 0, none⟩ = some (.string (bs F)) := cell_of_block hb5 0
              have K5 := Lib.hid (show Keeps [] w w5 from (T3.out.kp.alloc _).grown hgr (fun b hb => Or.inr (T3.out.own.lt b hb).1))
              have O5 := Lib.hid hown
              clear hib hib0 hib1 hib2 hown hgr hlg hlt5 hb5 c0 c1 c2 hBW hlt hdl T3
              obtain ⟨a1, a2, a3, a4⟩ := raw_ok HKW.out j (s.data.toList.drop j)
              have hkr : k - j = R.2 := by have := HKR.out; omega
              have a5 := raw_pos (kw := kw) j (s.data.toList.drop j)
              rw [HR.out] at a5
              rw [HR.out, ← hkr, ← HX.out, ← HF.out] at a1
              rw [HR.out, ← hkr, ← HX.out] at a2
              rw [HR.out] at a3
              have hhand := hand_of_run kw s.data.toList i j hij HSP.out
              have hst : stepTok kw i (s.data.toList.drop i) = ((tokAt kw j (s.data.toList.drop j)).1, j + (tokAt kw j (s.data.toList.drop j)).2) := by
                have h1 := congrArg Hand.tok hhand
                have h2 := congrArg Hand.nxt hhand
                simp only [handAt] at h1 h2
                exact Prod.ext h1 h2
              obtain ⟨n1, hn1⟩ : ∃ n1, gO = n1 + 1 := ⟨gO - 1, by omega⟩
              have htoks : toks kw s.data.toList gO i = if last (tokAt kw j (s.data.toList.drop j)).1 then [(tokAt kw j (s.data.toList.drop j)).1] else (tokAt kw j (s.data.toList.drop j)).1 :: toks kw s.data.toList n1 (j + (tokAt kw j (s.data.toList.drop j)).2) := by
                rw [hn1, toks, hst]
              revert a1 a2 a3 a4 a5 htoks
              generalize tokAt kw j (s.data.toList.drop j) = TT
              obtain ⟨tk, adv2⟩ := TT
              intro a1 a2 a3 a4 a5 htoks
              simp only at a1 a2 a3 a4 a5 htoks
              have A1 := Lib.hid a1
              have A2 := Lib.hid a2
              have A3 := Lib.hid a3
              have A4 := Lib.hid a4
              have A5 := Lib.hid a5
              have HTS := Lib.hid htoks
              have HN1 := Lib.hid hn1
              have HKJ := Lib.hid hkr
              have hcells : [Value.string (bs F), .string (bs X), .int .i64 (j : Nat)] = tokCells (tk, X) := by unfold tokCells; rw [a1, a4]
              have hown' := O5.out
              rw [hcells] at hown'
              have O6 := Lib.hid (show w5.ownsRow w.heap.size 122 3 (.slice (some ⟨g5, 0, none⟩) (acc.length + 1) c5) (acc.length + 1) ((acc ++ [(tk, X)]).flatMap tokCells) by simpa using hown')
              have B6 := Lib.hid (show ∀ x ∈ acc ++ [(tk, X)], x.1.kind ≠ .bad → x.2 = x.1.text by
                intro x hx
                rcases List.mem_append.1 hx with h | h
                · exact HBD.out x h
                · simp at h; subst h; exact A2.out)
              clear a1 a2 a3 a4 a5 htoks hn1 hkr hcells hown' O5 hhand hst
              by_cases hlast : last tk = true
              · have hfin : (acc ++ [(tk, X)]).map (·.1) = tokens kw s.data.toList := by
                  rw [← HTK.out, HTS.out, if_pos hlast]; simp
                have HFIN := Lib.hid hfin
                have hFF : F = kstr .bad ∨ F = kstr .eof := by rw [← A1.out]; exact last_iff.1 hlast
                have hfc : ((bs F).toList == [110, 111, 110, 101]) = true ∨ (((bs F).toList == [110, 111, 110, 101]) = false ∧ ((bs F).toList == [101, 110, 100]) = true) := by
                  rw [bs_toList]
                  rcases hFF with h | h <;> rw [h]
                  · exact .inl (by decide)
                  · exact .inr (by decide)
                clear hfin hlast hFF
                rcases hfc with hF1 | ⟨hF1, hF2⟩
                all_goals
                  go_wp2
                  refine bodyPost_ret (v := .slice (some ⟨g5, 0, none⟩) (acc.length + 1) c5) (by simp [results, Tryd.results23, go_sem]) rfl ⟨g5, acc.length + 1, c5, rfl, by rw [← HFIN.out]; simp, ?_, (O6.out.lt g5 rfl).1, (O6.out.lt g5 rfl).2, K5.out⟩
                  rw [← HFIN.out]
                  exact toksAt_of O6.out B6.out
              · have hnl : last tk = false := by simpa using hlast
                have hk' : adv2 = k - j := by rw [A3.out hnl, HKJ.out]
                have hfin : (acc ++ [(tk, X)]).map (·.1) ++ toks kw s.data.toList n1 k = tokens kw s.data.toList := by
                  rw [← HTK.out, HTS.out, if_neg hlast, hk', show j + (k - j) = k by omega]; simp
                have HFIN := Lib.hid hfin
                have hF1 : ((bs F).toList == [110, 111, 110, 101]) = false := by
                  rw [bs_toList]; refine beq_eq_false_iff_ne.2 (fun e => hlast (last_iff.2 (.inl ?_))); rw [A1.out]; exact e
                have hF2 : ((bs F).toList == [101, 110, 100]) = false := by
                  rw [bs_toList]; refine beq_eq_false_iff_ne.2 (fun e => hlast (last_iff.2 (.inr ?_))); rw [A1.out]; exact e
                have hpos : 0 < k - j := by rw [HKJ.out]; exact A5.out hnl
                clear hnl hk' hfin hlast
                go_wp2_with fail
                go_roundg n1
                case measure => have := HN1.out; omega
                case rel =>
                  refine ⟨k, acc ++ [(tk, X)], rfl, hks, ?_, ?_, HFIN.out, B6.out, by simpa using O6.out, K5.out⟩
                  · have := HN1.out; omega
                  · have := HN1.out; simp; omega
end Go.Proofs.YtpbplpnifjbkoaaDoor

/-
  maps.Equal at names' types: it ends, whatever it says; plain.env: by contracts.
-/
import Derived.Test.YtpbplpnifjbkoabGreatDoorInst
import Derived.WalkKit
import Derived.Maps.RangeWalk
import Derived.Laws.IdiomRangeMap
import Derived.Deep.LoopGhost
import Derived.Deep.RegionLaw
namespace Go.Proofs.YtpbplpnifjbkoabGreatDoor
open Go.RowKit Go.Maps

theorem Keeps.grown0 {w w' : World} (h : w.grownBy w' none) : Keeps [] w w' := (Keeps.refl [] w).grown h (fun k e => by cases e)

set_option maxHeartbeats 4000000 in
set_option maxRecDepth 100000 in
theorem maps_equal_any {w : World} {b1 b2 n1 n2 : Nat} {f1 f2 : Bytes → Option Bytes} (t1 : TMap w b1 n1 f1) (t2 : TMap w b2 n2 f2) :
    Calls Tryz.prog 28 #[.map (some b1), .map (some b2)] w fun e w' => (∃ b, e = .returned (.bool b)) ∧ Keeps [] w w' := by
  obtain ⟨D1, h1, _⟩ := t1
  obtain ⟨D2, h2, _⟩ := t2
  have l1 := fun ty => h1.len (t := 58) uTm ty
  have l2 := fun ty => h2.len (t := 58) uTm ty
  by_cases hsz : Maps.size D1 = Maps.size D2
  · go_enter Tryz.func28, Tryz.ntmps28
    go_wp2_with (first
      | (at_range; refine wpList_range_own _ rfl _ 58 rfl 9 70 lawString uTm tyElem b1 n1 _ rfl h1 ?_; intro w0 hrg0 hg0 hs0)
      | go_in)
    have HQ1 := Lib.hid h1
    go_frame
    go_loopw [16] (fun _ wr => ∃ (left : Lit → Bool) (cnt : Nat), wr.ranges Tryz.prog 9 tyElem b1 w.heap.size n1 D1 left cnt ∧ wr.ownsMap Tryz.prog 9 tyElem b2 n2 D2 ∧ w.grownBy wr none)
      (fun _ wr => wr.rangeLeft b1 w.heap.size)
    case atStart => exact ⟨_, _, hrg0, h2.kept hg0 (by simp), hg0⟩
    case round =>
      obtain ⟨left, cnt, hrg, h2r, hgw⟩ := hrel
      go_wp2_with (first
        | (at_next; refine wpList_next_ranges _ rfl _ rfl 9 lawString tyElem id id (fun key _ _ => ⟨key, rfl⟩) (fun v _ _ => ⟨v, rfl⟩) b1 w.heap.size n1 _ _ _ rfl hrg ?_ ?_)
        | go_in)
      · intro _ hl0
        go_wp2
        go_ret
        exact ⟨⟨_, rfl⟩, Keeps.grown0 hgw⟩
      · intro x c kl yd yp w1 cnt1 hkey hlx hv hat hrg1 hlt hg1 hs1 hen
        have hgw1 : w.grownBy w1 none := hgw.andThen hg1 (fun j hj => by cases hj; exact Or.inl (Nat.le_refl _))
        have h2w1 := h2r.kept hg1 (fun e => by have := Option.some.inj e; have := h2.lt; omega)
        obtain ⟨s1, rfl⟩ : ∃ s, c = .agg #[.string s] := by
          unfold tyElem at hv
          split at hv
          · exact ⟨_, rfl⟩
          · cases hv
        have h2a := h2w1.kept (World.grownBy_alloc w1 (.cells #[.string s1] 70) none) (fun e => by cases e)
        obtain ⟨v2, ps2, hlk, hv2⟩ := h2a.look_ok lawString uTm (zTm _) (zd := .lit (.string [])) (zp := []) (tyElem_of []) hkey
        obtain ⟨s2, rfl⟩ : ∃ s, v2 = .agg #[.string s] := by
          unfold tyElem at hv2
          split at hv2
          · exact ⟨_, rfl⟩
          · cases hv2
        have HA := Lib.hid h2w1
        have HG1 := Lib.hid hgw1
        have HR1 := Lib.hid hrg1
        have HR0 := Lib.hid hrg
        clear h2w1 hgw1 hrg1 h2a h2r hgw hrg hg0 hrg0 h1 h2 hg1
        go_wp2_with fail
        all_goals first
          | (go_ret
             exact ⟨⟨_, rfl⟩, by repeat (first | exact Keeps.grown0 HG1.out | refine Keeps.alloc ?_ _ | refine Keeps.drew ?_)⟩)
          | (have hg2 := (World.grownBy_alloc w1 (.cells #[.string s1] 70) none).andThen (World.grownBy_alloc (w1.alloc (.cells #[.string s1] 70)) (.cells #[.string s2] 70) none) (fun j hj => by cases hj)
             have hrg2 := HR1.out.kept hg2 (by simp) (by simp)
             refine ⟨⟨_, cnt1, hrg2, HA.out.kept hg2 (by simp), HG1.out.andThen hg2 (fun j hj => by cases hj)⟩, ?_⟩
             rw [hrg2.left_eq, HR0.out.left_eq]
             exact hlt)
  · have hne : ¬ ((Maps.size D1 : Int) = (Maps.size D2 : Int)) := fun e => hsz (by exact_mod_cast e)
    go_enter Tryz.func28, Tryz.ntmps28
    go_wp2
    go_ret
    exact ⟨⟨_, rfl⟩, Keeps.refl _ _⟩

/-- What names stand for: of two of a name the last. -/
def envF (l : List (Bytes × Bytes)) : Bytes → Option Bytes := l.foldl (fun f p => fun y => if y = p.1 then some p.2 else f y) fun _ => none
theorem envF_snoc (l : List (Bytes × Bytes)) (p : Bytes × Bytes) : envF (l ++ [p]) = fun y => if y = p.1 then some p.2 else envF l y := by
  simp [envF, List.foldl_append]

set_option maxRecDepth 100000 in
set_option maxHeartbeats 4000000 in
theorem env_any {ns ts : List Bytes} (hl : ns.length ≤ 1000) (hs : ∀ x ∈ ns, x.length ≤ 1000) {w : World} {sn st : Value} (h1 : SRow w 0 sn ns) (h2 : SRow w 0 st ts) :
    Calls Tryz.prog 22 #[sn, st] w fun e w' => ∃ mb k, e = .returned (.map (some mb)) ∧ k ≤ 1000 ∧ TMap w' mb k (envF (ns.zip ts)) ∧ Keeps [] w w' ∧ w.heap.size ≤ mb := by
  obtain ⟨an, cn, rfl, hcn⟩ := h1
  obtain ⟨at', ct, rfl, hct⟩ := h2
  have hmm := @run_makeMap Tryz.prog
  have HN := Lib.hid hcn
  have HT := Lib.hid hct
  have HS := Lib.hid hs
  clear hcn hct hs
  go_enter Tryz.func22, Tryz.ntmps22
  go_wp2_with fail
  have HMD := Lib.hid (TMap.made w)
  have HKD := Lib.hid ((Keeps.refl [] w).alloc (.map #[] 0))
  go_loopg [10] ns.length (fun gg i wx => ∃ (j : Nat), gg = ns.length - j ∧ i = .int .i64 j ∧ j ≤ ns.length ∧ (∃ k, k ≤ j ∧ TMap wx w.heap.size k (envF ((ns.zip ts).take j))) ∧ Keeps [] w wx)
  case atStart => exact ⟨0, rfl, rfl, by omega, ⟨0, Nat.le_refl _, HMD.out⟩, HKD.out⟩
  case round =>
    obtain ⟨j, hg, rfl, hj, ⟨k, hkj, hmap⟩, hk⟩ := hrel
    have HG := Lib.hid hg
    have HM := Lib.hid hmap
    have HK := Lib.hid hk
    clear hg hmap hk
    by_cases hlt : j < ns.length
    · have hdl : decide ((j : Int) < (ns.length : Int)) = true := by simpa using hlt
      obtain ⟨x, hx⟩ : ∃ x, ns[j]? = some x := ⟨_, List.getElem?_eq_getElem hlt⟩
      obtain ⟨g, _, rfl, hcell⟩ := HN.out j x hx
      have hcx : wr.cell? ⟨g, j, none⟩ = some (.string (bs x)) := HK.out.cellSome hcell (by simp)
      by_cases hlt2 : j < ts.length
      · have hdl2 : decide ((j : Int) < (ts.length : Int)) = true := by simpa using hlt2
        obtain ⟨y, hy⟩ : ∃ y, ts[j]? = some y := ⟨_, List.getElem?_eq_getElem hlt2⟩
        obtain ⟨g2, _, rfl, hcell2⟩ := HT.out j y hy
        have hcy : wr.cell? ⟨g2, j, none⟩ = some (.string (bs y)) := HK.out.cellSome hcell2 (by simp)
        have hlt3 := HM.out.lt
        have hxs : (bs x).size ≤ maxLen := by rw [bs_size]; have := HS.out x (List.mem_of_getElem? hx); unfold maxLen; omega
        have hmap2 : TMap wr.drew w.heap.size k (envF ((ns.zip ts).take j)) := HM.out.same rfl
        obtain ⟨w3, hrun, hm3, hg3⟩ := hmap2.store (by unfold maxLen; omega) (bs x) hxs y
        have HM3 := Lib.hid hm3
        have HG3 := Lib.hid hg3
        have HX := Lib.hid hx
        have HY := Lib.hid hy
        clear hmap2 hm3 hg3 hx hy hcell hcell2
        go_wp2_with fail
        go_region
        all_goals
          go_wp2_with fail
          go_roundg (ns.length - (j + 1))
          case measure => have := HG.out; omega
          case rel =>
            refine ⟨j + 1, rfl, by go_num, by omega, ⟨k + 1, by omega, ?_⟩, (HK.out.drew).grown HG3.out (fun k e => .inr (by cases e; exact Nat.le_refl _))⟩
            have h1 : (ns.zip ts)[j]? = some (x, y) := by rw [List.getElem?_zip_eq_some]; exact ⟨HX.out, HY.out⟩
            rw [take_next' h1, envF_snoc]
            have := HM3.out
            rw [bs_data] at this
            exact this
      · have hdl2 : decide ((j : Int) < (ts.length : Int)) = false := by simpa using hlt2
        go_wp2_with fail
        go_roundg (ns.length - (j + 1))
        case measure => have := HG.out; omega
        case rel =>
          refine ⟨j + 1, rfl, by go_num, by omega, ⟨k, by omega, ?_⟩, HK.out⟩
          have h1 : (ns.zip ts).take (j + 1) = (ns.zip ts).take j := by
            rw [List.take_of_length_le (by rw [List.length_zip]; omega), List.take_of_length_le (by rw [List.length_zip]; omega)]
          rw [h1]
          exact HM.out
    · have hdl : decide ((j : Int) < (ns.length : Int)) = false := by simpa using hlt
      go_wp2
      go_ret
      refine ⟨_, k, rfl, by omega, ?_, HK.out, Nat.le_refl _⟩
      have := HM.out
      rwa [List.take_of_length_le (by rw [List.length_zip]; omega)] at this
end Go.Proofs.YtpbplpnifjbkoabGreatDoor

/-
  text.Caught; the deferred closure of ast.Read; ast.Read itself: by contracts.
-/
import Derived.Test.YtpbplpnifjbkoabGreatDoorBelow2
import Derived.Test.YtpbplpnifjbkoabGreatDoorParser
import Derived.Test.YtpbplpnifjbkoabGreatDoorNames
import Derived.Recover
import Derived.Defers
namespace Go.Proofs.YtpbplpnifjbkoabGreatDoor
open Go.RowKit

theorem wpS_region_draw {P : Program} {Q : Exit → Act → List Frame → World → Prop} {a : Act} {cs : List Frame} {w : World} {id : Nat} {ops : Array Oper}
    (h : ∀ t, wpOpsS P ops Q (Region.schedule (P.follows .mixedOrders) ops t) a cs w.drew) : (Code.region id ops true).wpS P Q a cs w :=
  fun b k hb hr => let ⟨e, a', cs', w', q, r⟩ := wp_opsS _ a cs _ (h _) b k hb hr; ⟨e, a', cs', w', q, .of_steps (.one step_region_draw) r⟩

theorem caught_nil (v : Value) (w : World) : Calls Tryz.prog 84 #[.nilIface, v] w fun e w' => e = .returned v ∧ w = w' := by
  go_enter Tryz.func84, Tryz.ntmps84
  go_wp2
  go_ret
  exact ⟨rfl, rfl⟩

theorem taStop (v : Value) (xT : TypeId) (w : World) : (Instr.typeAssert (.iface 273 v) xT 273 true).run Tryz.prog w = .ok (.tuple #[v, .bool true]) w := by kernel_rfl

theorem caught_stop (p : Nat) (v : Value) (w : World) : Calls Tryz.prog 84 #[stopV p, v] w fun e w' =>
    ∃ b : Nat, e = .returned (.iface 135 (.pointer (some ⟨b, 0, none⟩))) ∧ w'.heap[b]? = some (.cells #[.int .i64 p] 146 (0, 0)) ∧ Keeps [] w w' ∧ w.heap.size ≤ b := by
  have q := taStop (.agg #[.int .i64 p]) 20 w
  go_enter Tryz.func84, Tryz.ntmps84
  go_wp2
  go_ret
  refine ⟨w.heap.size + 1, rfl, ?_, ((Keeps.refl [] w).alloc _).alloc _, Nat.le_succ _⟩
  have := block_alloc (w.alloc (.cells #[.int .i64 p] 273)) (.cells #[.int .i64 p] 146)
  simpa using this

theorem lin_go {md : Region.Mode} {ops : Array Oper} {n t : Nat} {listed : Array Bool} {acc : List Nat} : Region.linearise.go md ops (n + 1) t listed acc =
    match (Region.ready md ops listed)[t % (Region.ready md ops listed).length]? with
    | some i => Region.linearise.go md ops n (t / (Region.ready md ops listed).length) (listed.setIfInBounds i true) (i :: acc)
    | none => acc.reverse := rfl

theorem sched_two {ops : Array Oper} (hsz : ops.size = 4) (h0 : Region.ready .any ops #[false, false, false, false] = [0, 1]) (h1 : Region.ready .any ops #[true, false, false, false] = [1])
    (h2 : Region.ready .any ops #[false, true, false, false] = [0]) (h3 : Region.ready .any ops #[true, true, false, false] = [2]) (h4 : Region.ready .any ops #[true, true, true, false] = [3]) (t : Nat) :
    Region.schedule true ops t = [0, 1, 2, 3] ∨ Region.schedule true ops t = [1, 0, 2, 3] := by
  simp only [Region.schedule, Bool.true_or, if_true, Region.linearise, hsz]
  rw [show Array.replicate 4 false = #[false, false, false, false] from rfl]
  rw [lin_go, h0]
  rcases Nat.mod_two_eq_zero_or_one t with h | h
  · left
    simp only [List.length_cons, List.length_nil, h, List.getElem?_cons_zero]
    rw [show (#[false, false, false, false] : Array Bool).setIfInBounds 0 true = #[true, false, false, false] from rfl, lin_go, h1]
    simp only [List.length_cons, List.length_nil, Nat.mod_one, List.getElem?_cons_zero, Nat.zero_add]
    rw [show (#[true, false, false, false] : Array Bool).setIfInBounds 1 true = #[true, true, false, false] from rfl, lin_go, h3]
    simp only [List.length_cons, List.length_nil, Nat.mod_one, List.getElem?_cons_zero, Nat.zero_add]
    rw [show (#[true, true, false, false] : Array Bool).setIfInBounds 2 true = #[true, true, true, false] from rfl, lin_go, h4]
    simp [Nat.mod_one, Region.linearise.go]
  · right
    simp only [List.length_cons, List.length_nil, h, List.getElem?_cons_succ, List.getElem?_cons_zero]
    rw [show (#[false, false, false, false] : Array Bool).setIfInBounds 1 true = #[false, true, false, false] from rfl, lin_go, h2]
    simp only [List.length_cons, List.length_nil, Nat.mod_one, List.getElem?_cons_zero, Nat.zero_add]
    rw [show (#[false, true, false, false] : Array Bool).setIfInBounds 0 true = #[true, true, false, false] from rfl, lin_go, h3]
    simp only [List.length_cons, List.length_nil, Nat.mod_one, List.getElem?_cons_zero, Nat.zero_add]
    rw [show (#[true, true, false, false] : Array Bool).setIfInBounds 2 true = #[true, true, true, false] from rfl, lin_go, h4]
    simp [Nat.mod_one, Region.linearise.go]

set_option maxHeartbeats 1000000 in
theorem read1_idle (b : Nat) (v : Value) (w : World) (h : w.heap[b]? = some (.cells #[v] 61 (0, 0))) (hv : v = .nilIface ∨ ∃ t q, v = .iface t (.pointer q)) :
    CallsD Tryz.prog 83 #[.pointer (some ⟨b, 0, none⟩)] .returning w fun e u' w' => e = .returned (.tuple #[]) ∧ u' = .returning ∧ w' = w.drew.setCell ⟨b, 0, none⟩ v := by
  have hc : w.drew.cell? ⟨b, 0, none⟩ = some v := cell_of_block h 0
  have hf : w.drew.frozen? ⟨b, 0, none⟩ = false := free_of_block h 0
  rcases hv with rfl | ⟨ty, q, rfl⟩
  all_goals
    refine callsD_of_wpS Tryz.func83 rfl fun c₀ cs hu => ?_
    apply wpS_region_draw
    intro t
    rw [show Tryz.prog.follows .mixedOrders = true by kernel_rfl]
    rcases sched_two (by kernel_rfl) (by kernel_rfl) (by kernel_rfl) (by kernel_rfl) (by kernel_rfl) (by kernel_rfl) t with h | h
    · rw [h]
      simp [wpOpsS, go_sem, recoverD, hu, Tryz.ntmps83, hc]
      refine (caught_nil _ _).mono ?_
      rintro e w1 ⟨rfl, rfl⟩
      simp [go_sem, hc, hf, bodyPostS, results, Tryz.results83]
      cases c₀; simp_all
    · rw [h]
      simp [wpOpsS, go_sem, recoverD, hu, Tryz.ntmps83, hc]
      refine (caught_nil _ _).mono ?_
      rintro e w1 ⟨rfl, rfl⟩
      simp [go_sem, hc, hf, bodyPostS, results, Tryz.results83]
      cases c₀; simp_all

set_option maxHeartbeats 1000000 in
theorem read1_panicking (b : Nat) (v : Value) (p : Nat) (older : List PanicEntry) (w : World) (hb : w.heap[b]? = some (.cells #[v] 61 (0, 0))) :
    CallsD Tryz.prog 83 #[.pointer (some ⟨b, 0, none⟩)] (.panicking ({ v := stopV p, recovered := false } :: older)) w fun e u' w' => e = .returned (.tuple #[]) ∧ u' = .panicking ({ v := stopV p, recovered := true } :: older) ∧
      ∃ c, w'.heap[b]? = some (.cells #[.iface 135 (.pointer (some ⟨c, 0, none⟩))] 61 (0, 0)) ∧ w'.heap[c]? = some (.cells #[.int .i64 p] 146 (0, 0)) ∧ Keeps [b] w w' ∧ w.heap.size ≤ c := by
  have hc : w.drew.cell? ⟨b, 0, none⟩ = some v := cell_of_block hb 0
  have hf : w.drew.frozen? ⟨b, 0, none⟩ = false := free_of_block hb 0
  have hlt : b < w.drew.heap.size := lt_of_some hb
  refine callsD_of_wpS Tryz.func83 rfl fun c₀ cs hu => ?_
  apply wpS_region_draw
  intro t
  rw [show Tryz.prog.follows .mixedOrders = true by kernel_rfl]
  rcases sched_two (by kernel_rfl) (by kernel_rfl) (by kernel_rfl) (by kernel_rfl) (by kernel_rfl) (by kernel_rfl) t with h | h
  · rw [h]
    simp [wpOpsS, go_sem, recoverD, hu, Tryz.ntmps83, hc]
    refine (caught_stop p _ _).mono ?_
    rintro e w1 ⟨c, rfl, hc1, hk, hge⟩
    have hc2 : w1.cell? ⟨b, 0, none⟩ = some v := (hk.cell (p := ⟨b, 0, none⟩) hlt (by simp)).trans hc
    have hf2 : w1.frozen? ⟨b, 0, none⟩ = false := (hk.frozen (p := ⟨b, 0, none⟩) hlt (by simp)).trans hf
    simp [go_sem, hc2, hf2, bodyPostS, results, Tryz.results83]
    refine ⟨c, ?_, ?_, ?_, ?_⟩
    · have := block_setCell (w := w1) ((hk.block b hlt (by simp)).trans hb) 0 (.iface 135 (.pointer (some ⟨c, 0, none⟩)))
      simpa using this
    · exact block_setCell_other hc1 _ _ (by have : b < w.heap.size := hlt; have : w.heap.size ≤ c := hge; simp; omega)
    · exact (((Keeps.refl [] w).drew.trans0 hk).mono (by simp)).setCell (Or.inl (by simp)) _
    · exact hge
  · rw [h]
    simp [wpOpsS, go_sem, recoverD, hu, Tryz.ntmps83, hc]
    refine (caught_stop p _ _).mono ?_
    rintro e w1 ⟨c, rfl, hc1, hk, hge⟩
    have hc2 : w1.cell? ⟨b, 0, none⟩ = some v := (hk.cell (p := ⟨b, 0, none⟩) hlt (by simp)).trans hc
    have hf2 : w1.frozen? ⟨b, 0, none⟩ = false := (hk.frozen (p := ⟨b, 0, none⟩) hlt (by simp)).trans hf
    simp [go_sem, hc2, hf2, bodyPostS, results, Tryz.results83]
    refine ⟨c, ?_, ?_, ?_, ?_⟩
    · have := block_setCell (w := w1) ((hk.block b hlt (by simp)).trans hb) 0 (.iface 135 (.pointer (some ⟨c, 0, none⟩)))
      simpa using this
    · exact block_setCell_other hc1 _ _ (by have : b < w.heap.size := hlt; have : w.heap.size ≤ c := hge; simp; omega)
    · exact (((Keeps.refl [] w).drew.trans0 hk).mono (by simp)).setCell (Or.inl (by simp)) _
    · exact hge
end Go.Proofs.YtpbplpnifjbkoabGreatDoor

namespace Go.Proofs.YtpbplpnifjbkoabGreatDoor
open Go.RowKit

/-- Which of the eight errors stands for what, as package plain counts. -/
def sentOf : Nat → Option Nat
  | 1 => some 0 | 3 => some 1 | 6 => some 2 | 7 => some 3 | 8 => some 4 | 9 => some 5 | 10 => some 6 | 11 => some 7 | _ => none
/-- The value of an error: what is wrong, and where. -/
def ErrAt (a : Nat → Addr) (w : World) (f : Nat × Nat) (v : Value) : Prop :=
  (∃ k, sentOf f.1 = some k ∧ v = sent a k) ∨
  (f.1 = 2 ∧ ∃ c : Nat, v = .iface 135 (.pointer (some ⟨c, 0, none⟩)) ∧ w.heap[c]? = some (.cells #[.int .i64 f.2] 146 (0, 0)))

theorem kwExp_last (b : Bytes) (k : Kind) (h : kwExp b = some k) : k ≠ .eof ∧ k ≠ .bad := by
  unfold kwExp at h
  repeat (split at h; · cases h; decide)
  cases h

/-- What the plain reader comes to, in full. -/
theorem readExp_spec (s : Bytes) (hs : s.length ≤ 300) : ∃ res, pExp (4 * s.length + 8) (tokens kwExp s) = some res ∧
    ∀ x ts, res = .ok (x, ts) → wfT ts ∧ wfE false x = true ∧ esz x ≤ 1000 ∧ (textE x).length ≤ 200000 := by
  have hwf : wfT (tokens kwExp s) := (toks_TL kwExp kwExp_last s _ 0 (Nat.zero_le _) (by omega)).wf
  obtain ⟨h1, h2⟩ := toks_few kwExp s (s.length + 1) 0
  obtain ⟨res, hres, hP⟩ := (fuel_all (4 * s.length + 8)).1 (tokens kwExp s) hwf (by unfold tokens; omega)
  obtain ⟨res', hres', hP'⟩ := (size_all (4 * s.length + 8)).1 (tokens kwExp s) hwf (by unfold tokens; omega)
  rw [hres] at hres'
  cases hres'
  refine ⟨res, hres, fun x ts hx => ?_⟩
  obtain ⟨w1, l1, l2, l3⟩ := hP x ts hx
  obtain ⟨_, m1, m2⟩ := hP' x ts hx
  have hm : (s.length + 1) * (s.length + 34) ≤ 301 * 334 := Nat.mul_le_mul (by omega) (by omega)
  unfold tokens at l1 l2 m1 m2
  exact ⟨w1, l3, by omega, by omega⟩

/-- What reading comes to, of what parsing came to. -/
def finE : Except Nat (Exp × List Tok) → Except (Nat × Nat) Exp
  | .error p => .error (2, p)
  | .ok (x, ts) => if headKind ts = .eof then (if 40 < depth x then .error (3, 0) else .ok x) else .error (2, headPos ts)
theorem readExp_eq {s : Bytes} {res : Except Nat (Exp × List Tok)} (hs : ¬ 300 < s.length) (h : pExp (4 * s.length + 8) (tokens kwExp s) = some res) : readExp s = finE res := by
  unfold readExp
  rw [if_neg hs, h]
  rcases res with p | ⟨x, ts⟩
  · rfl
  · simp only [Res.bind, finE, want]
    by_cases he : headKind ts = .eof
    · simp [he]
    · simp [he]

theorem read1_still (b : Nat) (v : Value) (w : World) (h : w.heap[b]? = some (.cells #[v] 61 (0, 0))) (hv : v = .nilIface ∨ ∃ t q, v = .iface t (.pointer q)) :
    CallsD Tryz.prog 83 #[.pointer (some ⟨b, 0, none⟩)] .returning w fun e u' w' => e = .returned (.tuple #[]) ∧ u' = .returning ∧ w'.heap[b]? = some (.cells #[v] 61 (0, 0)) ∧ Keeps [b] w w' := by
  refine (read1_idle b v w h hv).mono ?_
  rintro e u' w' ⟨rfl, rfl, rfl⟩
  exact ⟨rfl, rfl, block_setCell (w := w.drew) h 0 v, (Keeps.refl [b] w).drew.setCell (Or.inl (by simp)) _⟩

def ReadPost (a : Nat → Addr) (w : World) (r : Except (Nat × Nat) Exp) (e : Ending) (w' : World) : Prop :=
  Keeps [] w w' ∧ match r with
  | .ok x => ∃ ty bb : Nat, e = .returned (.tuple #[ifp ty bb, .nilIface]) ∧ ExprAt w' w.heap.size w'.heap.size x [] [] (ifp ty bb) ∧ wfE false x = true ∧ esz x ≤ 1000 ∧ (textE x).length ≤ 200000
  | .error f => ∃ v u, e = .returned (.tuple #[v, u]) ∧ ErrAt a w' f u

set_option maxHeartbeats 1000000 in
theorem read_any {a : Nat → Addr} {B : Nat} (w : World) (hG : Gl a B w) (s : ByteArray) : Calls Tryz.prog 48 #[.string s] w (ReadPost a w (readExp s.data.toList)) := by
  have hmf : ∀ (fn : Fn) (first cap : Array Value) (w : World), (Instr.makeFunc fn first cap).run Tryz.prog w = .ok (.func fn first cap) w := fun _ _ _ _ => rfl
  have g0 := hG.v0
  have p0 : 1 < w.heap.size := lt_of_cell hG.v0
  have g1 := hG.v1
  have p1 : 2 < w.heap.size := lt_of_cell hG.v1
  by_cases hlen : 300 < s.size
  · have hr : readExp s.data.toList = .error (1, 0) := by
      unfold readExp
      rw [if_pos (by simpa using hlen)]
    rw [hr]
    have hd : decide ((s.size : Int) > 300) = true := by simp; omega
    go_enter_defers Tryz.func48, Tryz.ntmps48
    go_wp2_with fail
    go_region
    go_wp2
    simp [bodyPostD, Leaves, results, Tryz.results48, go_sem]
    exact ⟨(Keeps.refl [] w).alloc _ |>.drew, _, _, rfl, .inl ⟨0, rfl, rfl⟩⟩
  · have hd : decide ((s.size : Int) > 300) = false := by simp; omega
    obtain ⟨res, hres, hP⟩ := readExp_spec s.data.toList (by simpa using hlen)
    have HP := Lib.hid hP
    have hre := readExp_eq (by simpa using hlen) hres
    have HRE := Lib.hid hre
    have HF := Lib.hid hres
    clear hP hre hres
    go_enter_defers Tryz.func48, Tryz.ntmps48
    go_wp2_with fail
    refine (new_any kwExpFn kwExp_last s _ (by unfold maxLen; omega)).mono ?_
    rintro e w1 ⟨rfl, hr, hk⟩
    have hsz0 : (w.alloc (.cells #[.nilIface] 61)).heap.size = w.heap.size + 1 := by simp
    rw [hsz0] at hr ⊢
    have hsz1 := hk.size
    rw [hsz0] at hsz1
    have hkw : Keeps [] w w1 := ((Keeps.refl [] w).alloc _).trans0 hk
    have hb0 := hk.some (block_alloc w (.cells #[.nilIface] 61)) (by simp)
    have hk2 : Keeps [] w1 (w1.alloc (.cells #[.pointer (some ⟨w.heap.size + 1, 0, none⟩)] 194)) := (Keeps.refl [] w1).alloc _
    have hPC : PC s w1.heap.size (w.heap.size + 1) (tokens kwExp s.data.toList) (w1.alloc (.cells #[.pointer (some ⟨w.heap.size + 1, 0, none⟩)] 194)) := by
      obtain ⟨hd, hat, hn, hts⟩ := hr.ex
      have hlt := lt_of_some hat
      exact ⟨⟨⟨hd, hk2.some hat (by simp), hn, hts⟩, hr.fit⟩, block_alloc _ _, by omega, by simp; omega⟩
    have HC := Lib.hid hPC
    have HKW := Lib.hid hkw
    have HB0 := Lib.hid (hk2.some hb0 (by simp))
    clear hr hk hkw hb0 hPC hk2
    go_wp2_with fail
    have hfuel : 4 * s.data.toList.length + 8 ≤ 65536 := by simp at hlen; simp; omega
    rcases res with p | ⟨x, ts'⟩
    · refine (expr_any hfuel HC.out HF.out).mono ?_
      rintro e w2 ⟨rfl, hk⟩
      have HB2 := Lib.hid (hk.some HB0.out (by simp))
      refine leaves_cons (f := 83) (args := #[.pointer (some ⟨w.heap.size, 0, none⟩)]) (by simp) (by simp [go_sem]) ?_
      refine (read1_panicking w.heap.size .nilIface p [] _ HB2.out).mono ?_
      rintro e u' w'' ⟨rfl, rfl, c, hb, hc, hk2, hge⟩
      have hcell : w''.cell? ⟨w.heap.size, 0, none⟩ = some (.iface 135 (.pointer (some ⟨c, 0, none⟩))) := cell_of_block hb 0
      simp [Leaves, settle, results, Tryz.results48, go_sem, hcell]
      rw [HRE.out]
      refine ⟨((HKW.out.alloc _).trans hk (by simp)).trans hk2 (by simp), _, _, rfl, .inr ⟨rfl, c, rfl, hc⟩⟩
    · refine (expr_any hfuel HC.out HF.out).mono ?_
      rintro e w2 ⟨ty, bb, rfl, hv, hC2, hk⟩
      have HC2 := Lib.hid hC2
      have HV2 := Lib.hid hv
      have HB2 := Lib.hid (hk.some HB0.out (by simp))
      have HK2 := Lib.hid ((HKW.out.alloc (.cells #[.pointer (some ⟨w.heap.size + 1, 0, none⟩)] 194)).trans hk (by simp))
      have hsz2 := hk.size
      obtain ⟨c0, c4, c2⟩ := hC2.cells
      obtain ⟨hwf, hwe, hes, htx⟩ := HP.out x ts' rfl
      clear hk hC2 hv c4 c2
      go_wp2_with fail
      by_cases he : headKind ts' = .eof
      · refine (want_yes kwExpFn HC2.out.rd .eof _ rfl he).mono ?_
        rintro e w3 ⟨rfl, _, hk⟩
        have HB3 := Lib.hid (hk.some HB2.out (by simp))
        have HK3 := Lib.hid (HK2.out.trans hk (by simp))
        have hs3 := hk.size
        have HV3 := Lib.hid (show ExprAt w3 (w1.heap.size + 1) w2.heap.size x [] [] (ifp ty bb) from HV2.out.move hk (Nat.le_refl _) (by simp; omega) (by simp) (Nat.le_refl _))
        clear hk
        go_wp2_with fail
        refine (depth_any 65536 (Nat.le_refl _) x (by omega) hwe w3 _ _ _ HV3.out hs3).mono ?_
        rintro e w4 ⟨rfl, hk⟩
        have HB4 := Lib.hid (hk.some HB3.out (by simp))
        have HK4 := Lib.hid (HK3.out.trans0 hk)
        have hs4 := hk.size
        have HV4 := Lib.hid (show ExprAt w4 (w1.heap.size + 1) w2.heap.size x [] [] (ifp ty bb) from HV3.out.move hk (by omega) (by simp) (Nat.le_refl _) (Nat.le_refl _))
        have hc4 : w4.cell? ⟨w.heap.size, 0, none⟩ = some .nilIface := cell_of_block HB4.out 0
        have hf4 : w4.frozen? ⟨w.heap.size, 0, none⟩ = false := free_of_block HB4.out 0
        have hb4 : w.heap.size < w4.heap.size := lt_of_some HB4.out
        have hg4 : w4.cell? ⟨2, 0, none⟩ = some (sent a 1) := HK4.out.cellSome g1 (by simp)
        clear hk
        by_cases hdp : 40 < depth x
        · have hd2 : decide ((depth x : Int) > 40) = true := by simp; omega
          go_wp2_with fail
          go_region
          all_goals
            go_wp2
            refine leaves_cons (f := 83) (args := #[.pointer (some ⟨w.heap.size, 0, none⟩)]) (by simp) (by simp [go_sem]) ?_
            refine (read1_still w.heap.size (sent a 1) _ (by exact block_setCell (w := w4) HB4.out 0 (sent a 1)) (.inr ⟨_, _, rfl⟩)).mono ?_
            rintro e u' w'' ⟨rfl, rfl, hb, hk⟩
            have hcell : w''.cell? ⟨w.heap.size, 0, none⟩ = some ((sent a 1)) := cell_of_block hb 0
            simp [Leaves, settle, results, Tryz.results48, go_sem, hcell]
            rw [HRE.out, finE, if_pos he, if_pos hdp]
            exact ⟨((HK4.out.setCell (Or.inr (Nat.le_refl _)) _).drew).trans hk (by simp), _, _, rfl, .inl ⟨1, rfl, rfl⟩⟩
        · have hd2 : decide ((depth x : Int) > 40) = false := by simp; omega
          go_wp2
          refine leaves_cons (f := 83) (args := #[.pointer (some ⟨w.heap.size, 0, none⟩)]) (by simp) (by simp [go_sem]) ?_
          refine (read1_still w.heap.size .nilIface _ (block_setCell (w := w4) HB4.out 0 .nilIface) (.inl rfl)).mono ?_
          rintro e u' w'' ⟨rfl, rfl, hb, hk⟩
          have hcell : w''.cell? ⟨w.heap.size, 0, none⟩ = some (.nilIface) := cell_of_block hb 0
          simp [Leaves, settle, results, Tryz.results48, go_sem, hcell]
          rw [HRE.out, finE, if_pos he, if_neg hdp]
          have hk5 := (HK4.out.setCell (p := ⟨w.heap.size, 0, none⟩) (Or.inr (Nat.le_refl _)) .nilIface)
          refine ⟨hk5.trans hk (by simp), _, _, rfl, ?_, hwe, hes, htx⟩
          have hs5 := hk.size
          have hs5' : (w4.setCell ⟨w.heap.size, 0, none⟩ .nilIface).heap.size = w4.heap.size := by simp [World.setCell]
          refine ExprAt.keep (fun b h1 h2 => ?_) _ _ _ _ HV4.out |> ExprAt.widen (by omega) (by omega) _ _ _ _
          rw [hk.block b (by omega) (by simp; omega), Below.heap_setCell w4 _ _ b (by simp; omega)]
      · refine (want_no HC2.out.rd .eof _ rfl he).mono ?_
        rintro e w' ⟨rfl, rfl⟩
        refine leaves_cons (f := 83) (args := #[.pointer (some ⟨w.heap.size, 0, none⟩)]) (by simp) (by simp [go_sem]) ?_
        refine (read1_panicking w.heap.size .nilIface (headPos ts') [] _ HB2.out).mono ?_
        rintro e u' w'' ⟨rfl, rfl, c, hb, hc, hk2, hge⟩
        have hcell : w''.cell? ⟨w.heap.size, 0, none⟩ = some (.iface 135 (.pointer (some ⟨c, 0, none⟩))) := cell_of_block hb 0
        simp [Leaves, settle, results, Tryz.results48, go_sem, hcell]
        rw [HRE.out, finE, if_neg he]
        exact ⟨HK2.out.trans hk2 (by simp), _, _, rfl, .inr ⟨rfl, c, rfl, hc⟩⟩
end Go.Proofs.YtpbplpnifjbkoabGreatDoor

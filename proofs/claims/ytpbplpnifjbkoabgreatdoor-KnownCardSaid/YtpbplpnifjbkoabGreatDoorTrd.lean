/-
  types.Read, by contract.
-/
import Derived.Test.YtpbplpnifjbkoabGreatDoorTred
import Derived.Test.YtpbplpnifjbkoabGreatDoorReds
namespace Go.Proofs.YtpbplpnifjbkoabGreatDoor
open Go.RowKit

set_option maxHeartbeats 1000000 in
theorem tread1_idle (b : Nat) (v : Value) (w : World) (h : w.heap[b]? = some (.cells #[v] 61 (0, 0))) (hv : v = .nilIface ∨ ∃ t q, v = .iface t (.pointer q)) :
    CallsD Tryz.prog 122 #[.pointer (some ⟨b, 0, none⟩)] .returning w fun e u' w' => e = .returned (.tuple #[]) ∧ u' = .returning ∧ w' = w.drew.setCell ⟨b, 0, none⟩ v := by
  have hc : w.drew.cell? ⟨b, 0, none⟩ = some v := cell_of_block h 0
  have hf : w.drew.frozen? ⟨b, 0, none⟩ = false := free_of_block h 0
  rcases hv with rfl | ⟨ty, q, rfl⟩
  all_goals
    refine callsD_of_wpS Tryz.func122 rfl fun c₀ cs hu => ?_
    apply wpS_region_draw
    intro t
    rw [show Tryz.prog.follows .mixedOrders = true by kernel_rfl]
    rcases sched_two (by kernel_rfl) (by kernel_rfl) (by kernel_rfl) (by kernel_rfl) (by kernel_rfl) (by kernel_rfl) t with h | h
    · rw [h]
      simp [wpOpsS, go_sem, recoverD, hu, Tryz.ntmps122, hc]
      refine (caught_nil _ _).mono ?_
      rintro e w1 ⟨rfl, rfl⟩
      simp [go_sem, hc, hf, bodyPostS, results, Tryz.results122]
      cases c₀; simp_all
    · rw [h]
      simp [wpOpsS, go_sem, recoverD, hu, Tryz.ntmps122, hc]
      refine (caught_nil _ _).mono ?_
      rintro e w1 ⟨rfl, rfl⟩
      simp [go_sem, hc, hf, bodyPostS, results, Tryz.results122]
      cases c₀; simp_all

set_option maxHeartbeats 1000000 in
theorem tread1_panicking (b : Nat) (v : Value) (p : Nat) (older : List PanicEntry) (w : World) (hb : w.heap[b]? = some (.cells #[v] 61 (0, 0))) :
    CallsD Tryz.prog 122 #[.pointer (some ⟨b, 0, none⟩)] (.panicking ({ v := stopV p, recovered := false } :: older)) w fun e u' w' => e = .returned (.tuple #[]) ∧ u' = .panicking ({ v := stopV p, recovered := true } :: older) ∧
      ∃ c, w'.heap[b]? = some (.cells #[.iface 135 (.pointer (some ⟨c, 0, none⟩))] 61 (0, 0)) ∧ w'.heap[c]? = some (.cells #[.int .i64 p] 146 (0, 0)) ∧ Keeps [b] w w' ∧ w.heap.size ≤ c := by
  have hc : w.drew.cell? ⟨b, 0, none⟩ = some v := cell_of_block hb 0
  have hf : w.drew.frozen? ⟨b, 0, none⟩ = false := free_of_block hb 0
  have hlt : b < w.drew.heap.size := lt_of_some hb
  refine callsD_of_wpS Tryz.func122 rfl fun c₀ cs hu => ?_
  apply wpS_region_draw
  intro t
  rw [show Tryz.prog.follows .mixedOrders = true by kernel_rfl]
  rcases sched_two (by kernel_rfl) (by kernel_rfl) (by kernel_rfl) (by kernel_rfl) (by kernel_rfl) (by kernel_rfl) t with h | h
  · rw [h]
    simp [wpOpsS, go_sem, recoverD, hu, Tryz.ntmps122, hc]
    refine (caught_stop p _ _).mono ?_
    rintro e w1 ⟨c, rfl, hc1, hk, hge⟩
    have hc2 : w1.cell? ⟨b, 0, none⟩ = some v := (hk.cell (p := ⟨b, 0, none⟩) hlt (by simp)).trans hc
    have hf2 : w1.frozen? ⟨b, 0, none⟩ = false := (hk.frozen (p := ⟨b, 0, none⟩) hlt (by simp)).trans hf
    simp [go_sem, hc2, hf2, bodyPostS, results, Tryz.results122]
    refine ⟨c, ?_, ?_, ?_, ?_⟩
    · have := block_setCell (w := w1) ((hk.block b hlt (by simp)).trans hb) 0 (.iface 135 (.pointer (some ⟨c, 0, none⟩)))
      simpa using this
    · exact block_setCell_other hc1 _ _ (by have : b < w.heap.size := hlt; have : w.heap.size ≤ c := hge; simp; omega)
    · exact (((Keeps.refl [] w).drew.trans0 hk).mono (by simp)).setCell (Or.inl (by simp)) _
    · exact hge
  · rw [h]
    simp [wpOpsS, go_sem, recoverD, hu, Tryz.ntmps122, hc]
    refine (caught_stop p _ _).mono ?_
    rintro e w1 ⟨c, rfl, hc1, hk, hge⟩
    have hc2 : w1.cell? ⟨b, 0, none⟩ = some v := (hk.cell (p := ⟨b, 0, none⟩) hlt (by simp)).trans hc
    have hf2 : w1.frozen? ⟨b, 0, none⟩ = false := (hk.frozen (p := ⟨b, 0, none⟩) hlt (by simp)).trans hf
    simp [go_sem, hc2, hf2, bodyPostS, results, Tryz.results122]
    refine ⟨c, ?_, ?_, ?_, ?_⟩
    · have := block_setCell (w := w1) ((hk.block b hlt (by simp)).trans hb) 0 (.iface 135 (.pointer (some ⟨c, 0, none⟩)))
      simpa using this
    · exact block_setCell_other hc1 _ _ (by have : b < w.heap.size := hlt; have : w.heap.size ≤ c := hge; simp; omega)
    · exact (((Keeps.refl [] w).drew.trans0 hk).mono (by simp)).setCell (Or.inl (by simp)) _
    · exact hge
theorem tread1_still (b : Nat) (v : Value) (w : World) (h : w.heap[b]? = some (.cells #[v] 61 (0, 0))) (hv : v = .nilIface ∨ ∃ t q, v = .iface t (.pointer q)) :
    CallsD Tryz.prog 122 #[.pointer (some ⟨b, 0, none⟩)] .returning w fun e u' w' => e = .returned (.tuple #[]) ∧ u' = .returning ∧ w'.heap[b]? = some (.cells #[v] 61 (0, 0)) ∧ Keeps [b] w w' := by
  refine (tread1_idle b v w h hv).mono ?_
  rintro e u' w' ⟨rfl, rfl, rfl⟩
  exact ⟨rfl, rfl, block_setCell (w := w.drew) h 0 v, (Keeps.refl [b] w).drew.setCell (Or.inl (by simp)) _⟩

theorem kwTyp_last (b : Bytes) (k : Kind) (h : kwTyp b = some k) : k ≠ .eof ∧ k ≠ .bad := kwTyp_ne h
/-- What reading comes to, of what parsing came to. -/
def finT : Except Nat ((Ty × List Bytes) × List Tok) → Except (Nat × Nat) (Ty × List Bytes)
  | .error p => .error (2, p)
  | .ok (q, ts) => if headKind ts = .eof then (if 120 < q.1.size then .error (8, 0) else .ok q) else .error (2, headPos ts)
theorem readTyp_eq {s : Bytes} {res : Except Nat ((Ty × List Bytes) × List Tok)} (hs : ¬ 300 < s.length) (h : pWhole (4 * s.length + 8) [] (tokens kwTyp s) = some res) : readTyp s = finT res := by
  unfold readTyp
  rw [if_neg hs, h]
  rcases res with p | ⟨q, ts⟩
  · rfl
  · simp only [Res.bind, finT, want]
    by_cases he : headKind ts = .eof
    · simp [he]
    · simp [he]
theorem readTyp_spec (s : Bytes) (hs : s.length ≤ 300) : ∃ res, pWhole (4 * s.length + 8) [] (tokens kwTyp s) = some res ∧ ∀ q ts, res = .ok (q, ts) → wfT ts ∧ q.1.size ≤ 301 ∧ q.2.length ≤ 301 := by
  have hwf : wfT (tokens kwTyp s) := wfT_toks s _ _ (Nat.zero_le _) (by omega)
  have hlen := tokens_len kwTyp s (s.length + 1) 0
  obtain ⟨res, hres, hP⟩ := (fuelT_all (4 * s.length + 8)).1 [] (tokens kwTyp s) hwf (by unfold tokens; omega)
  refine ⟨res, hres, fun q ts hx => ?_⟩
  obtain ⟨w1, ok⟩ := hP q ts hx
  have h1 := ok.size
  have h2 : q.2.length + ts.length ≤ 0 + (toks kwTyp s (s.length + 1) 0).length := ok.few
  unfold tokens at h1
  exact ⟨w1, by omega, by omega⟩

/-- The errors' variables stay as they lie. -/
theorem Gl.kv [Inhabited Low] {a : Nat → Addr} {B : Nat} {w w' : World} {M : List Nat} (h : Gl a B w) (hk : KV M w w') (hM : ∀ m ∈ M, B ≤ m) : Gl a B w' := by
  have lo := h.lo
  have hnM : ∀ k, k < B → k ∉ M := fun k hk hm => by have := hM k hm; omega
  have hc : ∀ (g : Nat) (t : TypeId) (v : Value), g < B → w.cell? ⟨g, 0, none⟩ = some (.iface t v) → w'.cell? ⟨g, 0, none⟩ = some (.iface t v) := by
    intro g t v hg hcell
    have hlt := lt_of_cell hcell
    obtain ⟨o, ho⟩ : ∃ o, w.heap[g]? = some o := ⟨_, Array.getElem?_eq_getElem hlt⟩
    have hne : ∀ N u nm, o ≠ varO N u nm := by
      rintro N u nm rfl
      rw [cell_of_block ho 0] at hcell
      simp at hcell
    have := hk.blk ho (hnM g hg) hne
    rw [World.cell?_of_block (w := w) (w' := w') (by rw [this, ho]), hcell]
  refine ⟨hc _ _ _ (lo _ (by decide)) h.v0, hc _ _ _ (lo _ (by decide)) h.v1, hc _ _ _ (lo _ (by decide)) h.v2, hc _ _ _ (lo _ (by decide)) h.v3, hc _ _ _ (lo _ (by decide)) h.v4, hc _ _ _ (lo _ (by decide)) h.v5,
    hc _ _ _ (lo _ (by decide)) h.v6, hc _ _ _ (lo _ (by decide)) h.v7, hc _ _ _ (lo _ (by decide)) h.ty, lo, Nat.le_trans h.hi hk.size, h.low, fun k hk8 => ?_, h.ne⟩
  obtain ⟨c, t, ho⟩ := h.err k hk8
  by_cases hv : ∃ N u nm, (Obj.cells c t (0, 0)) = varO N u nm
  · obtain ⟨N, u, nm, e⟩ := hv
    rw [e] at ho
    obtain ⟨u', h1, _⟩ := hk.var _ _ _ _ ho
    exact ⟨_, _, h1⟩
  · exact ⟨c, t, hk.blk ho (hnM _ (h.low k hk8)) fun N u nm e => hv ⟨N, u, nm, e⟩⟩

def TReadPost [Inhabited Low] (a : Nat → Addr) (w : World) (av n0 : Nat) (r : Except (Nat × Nat) (Ty × List Bytes)) (e : Ending) (w' : World) : Prop :=
  KV [av] w w' ∧ match r with
  | .ok q => ∃ v m, e = .returned (.tuple #[v, .map (some m), .nilIface]) ∧ TyD (QN n0 q.2) w' (shT n0 q.1) v ∧ w'.heap[av]? = some (.cells #[.int .i64 (n0 + q.2.length : Nat)] 113 (0, 0))
  | .error f => ∃ v m u, e = .returned (.tuple #[v, .map m, u]) ∧ ErrAt a w' f u
/-- The same, the blocks of its variables besides. -/
def TReadB [Inhabited Low] (a : Nat → Addr) (w : World) (av n0 : Nat) (r : Except (Nat × Nat) (Ty × List Bytes)) (e : Ending) (w' : World) : Prop :=
  KV [av] w w' ∧ match r with
  | .ok q => ∃ bl v m, e = .returned (.tuple #[v, .map (some m), .nilIface]) ∧ TyB (QB n0 q.2 bl) w' (shT n0 q.1) v ∧ (bl.length = q.2.length ∧ BlkAt w' n0 bl) ∧ w'.heap[av]? = some (.cells #[.int .i64 (n0 + q.2.length : Nat)] 113 (0, 0))
  | .error f => ∃ v m u, e = .returned (.tuple #[v, .map m, u]) ∧ ErrAt a w' f u
theorem TReadB.post [Inhabited Low] {a : Nat → Addr} {w : World} {av n0 : Nat} {r : Except (Nat × Nat) (Ty × List Bytes)} {e : Ending} {w' : World} (h : TReadB a w av n0 r e w') : TReadPost a w av n0 r e w' := by
  refine ⟨h.1, ?_⟩
  have h2 := h.2
  cases r with
  | error f => exact h2
  | ok q =>
    obtain ⟨bl, v, m, h3, h4, _, h5⟩ := h2
    exact ⟨v, m, h3, h4.tq, h5⟩

set_option maxRecDepth 100000 in
set_option maxHeartbeats 4000000 in
theorem treadB_any [Inhabited Low] {a : Nat → Addr} {B : Nat} (w : World) (hG : Gl a B w) (s : ByteArray) (av n0 : Nat) (hav : w.heap[av]? = some (.cells #[.int .i64 n0] 113 (0, 0))) (hn0 : n0 ≤ 50000) (hBa : B ≤ av) (hlo : lowB ≤ w.heap.size) :
    Calls Tryz.prog 77 #[.string s, .pointer (some ⟨av, 0, none⟩)] w (TReadB a w av n0 (readTyp s.data.toList)) := by
  have hmf : ∀ (fn : Fn) (first cap : Array Value) (w : World), (Instr.makeFunc fn first cap).run Tryz.prog w = .ok (.func fn first cap) w := fun _ _ _ _ => rfl
  have hmm := @run_makeMap Tryz.prog
  have g0 := hG.v0
  have p0 : 1 < w.heap.size := lt_of_cell hG.v0
  have HG := Lib.hid hG
  by_cases hlen : 300 < s.size
  · have hr : readTyp s.data.toList = .error (1, 0) := by
      unfold readTyp
      rw [if_pos (by simpa using hlen)]
    rw [hr]
    have hd : decide ((s.size : Int) > 300) = true := by simp; omega
    clear hav
    go_enter_defers Tryz.func77, Tryz.ntmps77
    go_wp2_with fail
    go_region
    all_goals
      go_wp2
      simp [bodyPostD, Leaves, results, Tryz.results77, go_sem]
      exact ⟨((Keeps.refl [] w).alloc _ |>.drew).kv0.mono (by simp), _, _, _, rfl, .inl ⟨0, rfl, rfl⟩⟩
  · have hd : decide ((s.size : Int) > 300) = false := by simp; omega
    obtain ⟨res, hres, hP⟩ := readTyp_spec s.data.toList (by simpa using hlen)
    have HP := Lib.hid hP
    have hre := readTyp_eq (by simpa using hlen) hres
    have HRE := Lib.hid hre
    have HF := Lib.hid hres
    have HAV := Lib.hid hav
    have hal := lt_of_some hav
    have hl' : s.data.toList.length = s.size := by simp
    clear hP hre hres hav hG
    go_enter_defers Tryz.func77, Tryz.ntmps77
    go_wp2_with fail
    refine (new_any kwTypFn kwTyp_last s _ (by unfold maxLen; omega)).mono ?_
    rintro e w1 ⟨rfl, hr, hk⟩
    have hsz0 : (w.alloc (.cells #[.nilIface] 61)).heap.size = w.heap.size + 1 := by simp
    rw [hsz0] at hr ⊢
    have hsz1 := hk.size
    rw [hsz0] at hsz1
    have hkw : Keeps [] w w1 := ((Keeps.refl [] w).alloc _).trans0 hk
    have hb0 := hk.some (block_alloc w (.cells #[.nilIface] 61)) (by simp)
    have hk2 : Keeps [] w1 ((w1.alloc (.map #[] 0)).alloc (.cells #[.pointer (some ⟨w.heap.size + 1, 0, none⟩), .map (some w1.heap.size), .pointer (some ⟨av, 0, none⟩)] 267)) := ((Keeps.refl [] w1).alloc _).alloc _
    have hTC : TC s (w1.heap.size + 1) (w.heap.size + 1) w1.heap.size av n0 [] [] (tokens kwTyp s.data.toList) ((w1.alloc (.map #[] 0)).alloc (.cells #[.pointer (some ⟨w.heap.size + 1, 0, none⟩), .map (some w1.heap.size), .pointer (some ⟨av, 0, none⟩)] 267)) := by
      obtain ⟨hd, hat, hn, hts⟩ := hr.ex
      have hs2 : (w1.alloc (.map #[] 0)).heap.size = w1.heap.size + 1 := by simp
      have hbr := block_alloc (w1.alloc (.map #[] 0)) (.cells #[.pointer (some ⟨w.heap.size + 1, 0, none⟩), .map (some w1.heap.size), .pointer (some ⟨av, 0, none⟩)] 267)
      rw [hs2] at hbr
      have htl := tokens_len kwTyp s.data.toList (s.data.toList.length + 1) 0
      refine ⟨⟨⟨hd, hk2.some hat (by simp), hn, hts⟩, hr.fit⟩, hbr, ?_, ?_, ?_, toks_TOK _ _ _, by simp; omega⟩
      · have := (hkw.trans0 hk2).some HAV.out (by simp)
        simpa using this
      · obtain ⟨_, n, f, h1, h2, h3, h4⟩ := NmAt.made w1 n0
        exact ⟨⟨rfl, fun i b h => by simp at h⟩, n, f, h1, h2.same (Below.heap_alloc _ _ _ (by simp)), h3, fun x hx => by cases hx⟩
      · unfold tokens; simp at htl ⊢; omega
    have HC := Lib.hid hTC
    have HKW := Lib.hid (show KV [] w _ from (hkw.trans0 hk2).kv0)
    have HB0 := Lib.hid (hk2.some hb0 (by simp))
    have hsz3 : ((w1.alloc (.map #[] 0)).alloc (.cells #[.pointer (some ⟨w.heap.size + 1, 0, none⟩), .map (some w1.heap.size), .pointer (some ⟨av, 0, none⟩)] 267)).heap.size = w1.heap.size + 2 := by simp
    have HZ3 := Lib.hid hsz3
    clear hr hk hkw hb0 hTC hk2 hsz3 hsz0
    go_wp2_with fail
    rcases res with p | ⟨q, ts'⟩
    · refine ((types_reader s _ _ _ av n0 _).1 _ _ _ _ HC.out HF.out).mono ?_
      rintro e w2 ⟨rfl, hk⟩
      have hb2 := hk.blk HB0.out (by simp; omega) (by simp)
      refine leaves_cons (f := 122) (args := #[.pointer (some ⟨w.heap.size, 0, none⟩)]) (by simp) (by simp [go_sem]) ?_
      refine (tread1_panicking w.heap.size .nilIface p [] _ hb2).mono ?_
      rintro e u' w'' ⟨rfl, rfl, c, hb, hc, hk2, hge⟩
      have hcell : w''.cell? ⟨w.heap.size, 0, none⟩ = some (.iface 135 (.pointer (some ⟨c, 0, none⟩))) := cell_of_block hb 0
      simp [Leaves, settle, results, Tryz.results77, go_sem, hcell]
      rw [HRE.out]
      exact ⟨((HKW.out.mono (M' := [av]) (by simp)).trans hk (by simp; omega)).frame hk2 (by simp) (by simp; rintro o ho; rw [hb2] at ho; cases ho; exact plainO_cells (by decide)), _, _, _, rfl, .inr ⟨rfl, c, rfl, hc⟩⟩
    · refine ((types_reader s _ _ _ av n0 _).1 _ _ _ _ HC.out HF.out).mono ?_
      rintro e w2 ⟨bl, v, rfl, hv, hC, hk, hx⟩
      have HC2 := Lib.hid hC
      have HV2 := Lib.hid hv
      have HB2 := Lib.hid (hk.blk HB0.out (by simp; omega) (by simp))
      have HK2 := Lib.hid (show KV [av] w w2 from (HKW.out.mono (M' := [av]) (by simp)).trans hk (by simp; omega))
      obtain ⟨hwf, hqs, hqn⟩ := HP.out q ts' rfl
      obtain ⟨vt, vp, rfl⟩ : ∃ vt vp, v = .iface vt vp := by rcases hv.shape with ⟨_, rfl⟩ | ⟨_, rfl⟩ <;> exact ⟨_, _, rfl⟩
      have d0 : w2.cell? ⟨w1.heap.size + 1, 0, none⟩ = some (.pointer (some ⟨w.heap.size + 1, 0, none⟩)) := cell_of_block hC.ptr 0
      have hsz2 := hk.size
      clear hk hC hv hx
      go_wp2_with fail
      by_cases he : headKind ts' = .eof
      · refine (want_yes kwTypFn HC2.out.tr .eof _ rfl he).mono ?_
        rintro e w3 ⟨rfl, _, hk⟩
        have hkv := HC2.out.rdkv hk
        have HV3 := Lib.hid (hkv.tb HV2.out)
        have HBK3 := Lib.hid (show bl.length = q.2.length ∧ BlkAt w3 n0 bl from ⟨HC2.out.nm.1.1, HC2.out.nm.1.2.keep hkv⟩)
        have HB3 := Lib.hid (hk.some HB2.out (by simp))
        have HK3 := Lib.hid (show KV [av] w w3 from HK2.out.trans hkv (by simp; omega))
        have hav3 : w3.heap[av]? = some (.cells #[.int .i64 (n0 + q.2.length : Nat)] 113 (0, 0)) := hk.some HC2.out.vars (by simp; omega)
        have hrp3 : w3.heap[w1.heap.size + 1]? = some (.cells #[.pointer (some ⟨w.heap.size + 1, 0, none⟩), .map (some w1.heap.size), .pointer (some ⟨av, 0, none⟩)] 267 (0, 0)) := hk.some HC2.out.ptr (by simp; omega)
        have HAV3 := Lib.hid hav3
        have HRP3 := Lib.hid hrp3
        clear hk hkv hav3 hrp3 d0
        go_wp2_with fail
        have hsb := sizeB_ok (shT n0 q.1) 120
        rw [ren_size] at hsb
        refine (size_any _ _ (Nat.le_refl _) (QN n0 q.2) w3 _ 120 HV3.out.tq.ty (by omega) (by omega)).mono ?_
        rintro e w4 ⟨rfl, hk⟩
        have HB4 := Lib.hid (hk.blk HB3.out (by simp) (by simp))
        have HK4 := Lib.hid (HK3.out.trans0 hk)
        have HV4 := Lib.hid (hk.tb HV3.out)
        have HBK := Lib.hid (show bl.length = q.2.length ∧ BlkAt w4 n0 bl from ⟨HBK3.out.1, HBK3.out.2.keep hk⟩)
        have HAV4 := Lib.hid (hk.blk HAV3.out (by simp) (by simp))
        have hrp4 := hk.blk HRP3.out (by simp) (by simp)
        have hc4 : w4.cell? ⟨w.heap.size, 0, none⟩ = some .nilIface := cell_of_block HB4.out 0
        have hf4 : w4.frozen? ⟨w.heap.size, 0, none⟩ = false := free_of_block HB4.out 0
        have r1 : w4.cell? ⟨w1.heap.size + 1, 1, none⟩ = some (.map (some w1.heap.size)) := cell_of_block hrp4 1
        have hg4 := ((HG.out.kv (HK4.out.mono (M' := [av]) (by simp)) (by simpa using hBa))).v4
        have hb4 : w.heap.size < w4.heap.size := lt_of_some HB4.out
        generalize sizeB (shT n0 q.1) 120 = sb at hsb ⊢
        clear hk hrp4
        by_cases hdp : 120 < q.1.size
        · have hd2 : decide (sb > 120) = true := by simp; omega
          go_wp2_with fail
          go_region
          all_goals
            go_wp2
            refine leaves_cons (f := 122) (args := #[.pointer (some ⟨w.heap.size, 0, none⟩)]) (by simp) (by simp [go_sem]) ?_
            refine (tread1_still w.heap.size (sent a 4) _ (by exact block_setCell (w := w4) HB4.out 0 (sent a 4)) (.inr ⟨_, _, rfl⟩)).mono ?_
            rintro e u' w'' ⟨rfl, rfl, hb, hk⟩
            have hcell : w''.cell? ⟨w.heap.size, 0, none⟩ = some (sent a 4) := cell_of_block hb 0
            have hk5 : Keeps [w.heap.size] w4 w'' := by
              first
              | exact (((Keeps.refl [w.heap.size] w4).setCell (p := ⟨w.heap.size, 0, none⟩) (.inl (by simp)) _).drew).trans hk (by simp)
              | exact (((Keeps.refl [w.heap.size] w4).drew).setCell (p := ⟨w.heap.size, 0, none⟩) (.inl (by simp)) _).trans hk (by simp)
            have hk6 := HK4.out.frame hk5 (by simp) (by simp; rintro o ho; rw [HB4.out] at ho; cases ho; exact plainO_cells (by decide))
            simp [Leaves, settle, results, Tryz.results77, go_sem, hcell]
            rw [HRE.out, finT, if_pos he, if_pos hdp]
            exact ⟨hk6, _, _, _, rfl, .inl ⟨4, rfl, rfl⟩⟩
        · have hd2 : decide (sb > 120) = false := by simp; omega
          go_wp2_with fail
          go_region
          all_goals
            go_wp2
            refine leaves_cons (f := 122) (args := #[.pointer (some ⟨w.heap.size, 0, none⟩)]) (by simp) (by simp [go_sem]) ?_
            refine (tread1_still w.heap.size .nilIface _ (by exact block_setCell (w := w4) HB4.out 0 .nilIface) (.inl rfl)).mono ?_
            rintro e u' w'' ⟨rfl, rfl, hb, hk⟩
            have hcell : w''.cell? ⟨w.heap.size, 0, none⟩ = some .nilIface := cell_of_block hb 0
            have hk5 : Keeps [w.heap.size] w4 w'' := by
              first
              | exact (((Keeps.refl [w.heap.size] w4).setCell (p := ⟨w.heap.size, 0, none⟩) (.inl (by simp)) _).drew).trans hk (by simp)
              | exact (((Keeps.refl [w.heap.size] w4).drew).setCell (p := ⟨w.heap.size, 0, none⟩) (.inl (by simp)) _).trans hk (by simp)
            have hk6 := HK4.out.frame hk5 (by simp) (by simp; rintro o ho; rw [HB4.out] at ho; cases ho; exact plainO_cells (by decide))
            simp [Leaves, settle, results, Tryz.results77, go_sem, hcell]
            rw [HRE.out, finT, if_pos he, if_neg hdp]
            have hk7 : KV [w.heap.size] w4 w'' := hk5.kv (by simp; rintro o ho; rw [HB4.out] at ho; cases ho; exact plainO_cells (by decide))
            exact ⟨hk6, bl, _, _, rfl, hk7.tb HV4.out, ⟨HBK.out.1, HBK.out.2.keep hk7⟩, hk5.some HAV4.out (by simp; omega)⟩
      · refine (want_no HC2.out.tr .eof _ rfl he).mono ?_
        rintro e w' ⟨rfl, rfl⟩
        refine leaves_cons (f := 122) (args := #[.pointer (some ⟨w.heap.size, 0, none⟩)]) (by simp) (by simp [go_sem]) ?_
        refine (tread1_panicking w.heap.size .nilIface (headPos ts') [] _ HB2.out).mono ?_
        rintro e u' w'' ⟨rfl, rfl, c, hb, hc, hk2, hge⟩
        have hcell : w''.cell? ⟨w.heap.size, 0, none⟩ = some (.iface 135 (.pointer (some ⟨c, 0, none⟩))) := cell_of_block hb 0
        simp [Leaves, settle, results, Tryz.results77, go_sem, hcell]
        rw [HRE.out, finT, if_neg he]
        exact ⟨HK2.out.frame hk2 (by simp) (by simp; rintro o ho; rw [HB2.out] at ho; cases ho; exact plainO_cells (by decide)), _, _, _, rfl, .inr ⟨rfl, c, rfl, hc⟩⟩
theorem tread_any [Inhabited Low] {a : Nat → Addr} {B : Nat} (w : World) (hG : Gl a B w) (s : ByteArray) (av n0 : Nat) (hav : w.heap[av]? = some (.cells #[.int .i64 n0] 113 (0, 0))) (hn0 : n0 ≤ 50000) (hBa : B ≤ av) (hlo : lowB ≤ w.heap.size) :
    Calls Tryz.prog 77 #[.string s, .pointer (some ⟨av, 0, none⟩)] w (TReadPost a w av n0 (readTyp s.data.toList)) :=
  (treadB_any w hG s av n0 hav hn0 hBa hlo).mono fun _ _ h => h.post
end Go.Proofs.YtpbplpnifjbkoabGreatDoor

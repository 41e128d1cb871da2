/-
  infer.Show and plain.Show, by contracts.
-/
import Derived.Test.YtpbplpnifjbkoabGreatDoorFaults
namespace Go.Proofs.YtpbplpnifjbkoabGreatDoor
open Go.RowKit

theorem errAt_shape {a : Nat → Addr} {w : World} {f : Nat × Nat} {v : Value} (h : ErrAt a w f v) : ∃ t p, v = .iface t (.pointer p) := by
  rcases h with ⟨k, _, rfl⟩ | ⟨_, c, rfl, _⟩
  · exact ⟨_, _, rfl⟩
  · exact ⟨_, _, rfl⟩
theorem errAt_keep {a : Nat → Addr} {w w' : World} {_M : List Nat} {f : Nat × Nat} {v : Value} (h : ErrAt a w f v) (hk : Keeps [] w w') : ErrAt a w' f v := by
  rcases h with ⟨k, h, rfl⟩ | ⟨h, c, rfl, hc⟩
  · exact .inl ⟨k, h, rfl⟩
  · exact .inr ⟨h, c, rfl, hk.some hc (by simp)⟩
/-- Where it is. -/
def placeOf (f : Nat × Nat) : Nat := if f.1 = 2 then f.2 else 0
/-- What fault makes of an error that has a place or is one of the eight. -/
theorem fault_any {a : Nat → Addr} {B : Nat} {w : World} (hG : Gl a B w) {f : Nat × Nat} {v : Value} (h : ErrAt a w f v) :
    Calls Tryz.prog 27 #[v] w fun e w' => e = .returned (faultV f.1 (placeOf f) ⟨#[]⟩ 0 0) ∧ Keeps [] w w' := by
  rcases h with ⟨k, hk, rfl⟩ | ⟨h2, c, rfl, hc⟩
  · have h2 : f.1 ≠ 2 := by intro e; rw [e] at hk; simp [sentOf] at hk
    rw [placeOf, if_neg h2]
    exact fault_sent w hG f.1 k hk
  · rw [placeOf, if_pos h2, h2]
    exact fault_syn w hG c f.2 hc

def InferShowPost (a : Nat → Addr) (w : World) (r : Except (Nat × Nat) Exp) (e : Ending) (w' : World) : Prop :=
  Keeps [] w w' ∧ match r with
  | .ok x => e = .returned (.tuple #[.string (bs (textE x)), .nilIface])
  | .error f => ∃ u, e = .returned (.tuple #[.string ⟨#[]⟩, u]) ∧ ErrAt a w' f u

set_option maxRecDepth 100000 in
theorem infer_show {a : Nat → Addr} {B : Nat} (w : World) (hG : Gl a B w) (s : ByteArray) : Calls Tryz.prog 40 #[.string s] w (InferShowPost a w (readExp s.data.toList)) := by
  have HR := Lib.hid (read_any w hG s)
  clear hG
  go_enter Tryz.func40, Tryz.ntmps40
  go_wp2_with fail
  refine HR.out.mono ?_
  rintro e w1 ⟨hk, h⟩
  have HK := Lib.hid hk
  cases hr : readExp s.data.toList with
  | error f =>
    rw [hr] at h
    obtain ⟨v, u, rfl, he⟩ := h
    obtain ⟨t, p, rfl⟩ := errAt_shape he
    have HE := Lib.hid he
    have HRE := Lib.hid hr
    clear he hk hr HR
    go_wp2
    go_ret2
    refine ⟨HK.out, ?_⟩
    rw [HRE.out]
    exact ⟨_, rfl, HE.out⟩
  | ok x =>
    rw [hr] at h
    obtain ⟨ty, bb, rfl, hx, hw, hes, htx⟩ := h
    have HS := Lib.hid (show_any w1 _ _ 65536 x (by omega) (Nat.le_refl _) hw htx _ hx w1 (Keeps.refl _ _))
    have HRE := Lib.hid hr
    clear hx hw hes htx hk hr HR
    go_wp2_with fail
    refine HS.out.mono ?_
    rintro e w2 ⟨rfl, hk2⟩
    go_wp2
    go_ret2
    refine ⟨HK.out.trans0 hk2, ?_⟩
    rw [HRE.out]
    rfl

def PlainShowPost (w : World) (r : Except (Nat × Nat) Exp) (e : Ending) (w' : World) : Prop :=
  Keeps [] w w' ∧ e = .returned (match r with
    | .ok x => .tuple #[.string (bs (textE x)), faultV 0 0 ⟨#[]⟩ 0 0]
    | .error f => .tuple #[.string ⟨#[]⟩, faultV f.1 (placeOf f) ⟨#[]⟩ 0 0])

set_option maxRecDepth 100000 in
set_option maxHeartbeats 4000000 in
theorem plain_show {a : Nat → Addr} {B : Nat} (w : World) (hG : Gl a B w) (s : ByteArray) : Calls Tryz.prog 16 #[.string s] w (PlainShowPost w (readExp s.data.toList)) := by
  have hk0 : Keeps [] w (w.alloc (.cells #[.int .i64 0, .int .i64 0, .string ⟨#[]⟩, .int .i64 0, .int .i64 0] 26)) := (Keeps.refl [] w).alloc _
  have hG0 := hG.keeps hk0 (by simp)
  have HR := Lib.hid (infer_show _ hG0 s)
  have HK0 := Lib.hid hk0
  have HG := Lib.hid hG
  have HB := Lib.hid (block_alloc w (.cells #[.int .i64 0, .int .i64 0, .string ⟨#[]⟩, .int .i64 0, .int .i64 0] 26))
  clear hG hG0 hk0
  go_enter Tryz.func16, Tryz.ntmps16
  go_wp2_with fail
  refine HR.out.mono ?_
  rintro e w1 ⟨hk, h⟩
  have HK := Lib.hid (HK0.out.trans0 hk)
  have HB1 := Lib.hid (hk.some HB.out (by simp))
  clear hk HR
  cases hr : readExp s.data.toList with
  | error f =>
    rw [hr] at h
    obtain ⟨u, rfl, he⟩ := h
    have HF := Lib.hid (fault_any (HG.out.keeps HK.out (by simp)) he)
    obtain ⟨t, p, rfl⟩ := errAt_shape he
    clear he
    have HRE := Lib.hid hr
    clear hr
    go_wp2_with fail
    refine HF.out.mono ?_
    rintro e w2 ⟨rfl, hk2⟩
    have hb2 := hk2.some HB1.out (by simp)
    have r0 := cell_of_block hb2 0
    have r1 := cell_of_block hb2 1
    have r2 := cell_of_block hb2 2
    have r3 := cell_of_block hb2 3
    have r4 := cell_of_block hb2 4
    have f0 := free_of_block hb2 0
    have f1 := free_of_block hb2 1
    have f2 := free_of_block hb2 2
    have f3 := free_of_block hb2 3
    have f4 := free_of_block hb2 4
    have HK2 := Lib.hid (HK.out.trans0 hk2)
    clear hb2 hk2 HB HB1
    go_wp2_with fail
    refine bodyPost_ret (v := .tuple #[.string ⟨#[]⟩, faultV f.1 (placeOf f) ⟨#[]⟩ 0 0]) ?_ rfl ?_
    · simp [results, Tryz.results16, go_sem, r0, r1, r2, r3, r4]
    · refine ⟨by repeat (first | exact HK2.out | refine Keeps.setCell ?_ (Or.inr (Nat.le_refl _)) _), by first | rfl | rw [HRE.out]⟩
  | ok x =>
    rw [hr] at h
    obtain rfl := h
    have HRE := Lib.hid hr
    clear hr
    go_wp2_with fail
    refine (fault_nil _).mono ?_
    rintro e w2 ⟨rfl, hk2⟩
    have hb2 := hk2.some HB1.out (by simp)
    have r0 := cell_of_block hb2 0
    have r1 := cell_of_block hb2 1
    have r2 := cell_of_block hb2 2
    have r3 := cell_of_block hb2 3
    have r4 := cell_of_block hb2 4
    have f0 := free_of_block hb2 0
    have f1 := free_of_block hb2 1
    have f2 := free_of_block hb2 2
    have f3 := free_of_block hb2 3
    have f4 := free_of_block hb2 4
    have HK2 := Lib.hid (HK.out.trans0 hk2)
    clear hb2 hk2 HB HB1
    go_wp2_with fail
    refine bodyPost_ret (v := .tuple #[.string (bs (textE x)), faultV 0 0 ⟨#[]⟩ 0 0]) ?_ rfl ?_
    · simp [results, Tryz.results16, go_sem, r0, r1, r2, r3, r4]
    · refine ⟨by repeat (first | exact HK2.out | refine Keeps.setCell ?_ (Or.inr (Nat.le_refl _)) _), by first | rfl | rw [HRE.out]⟩
end Go.Proofs.YtpbplpnifjbkoabGreatDoor

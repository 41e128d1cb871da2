/-
  text.New; the keyword functions.
-/
import Derived.Test.YtpbplpnifjbkoaaDoorRw
namespace Go.Proofs.YtpbplpnifjbkoaaDoor
open Go.RowKit

theorem new_any {kf : Nat} {kw : Bytes → Option Kind} (hK : KwFn kf kw) (hkw : ∀ b k, kw b = some k → k ≠ .eof ∧ k ≠ .bad) (s : ByteArray) (w : World) (hs : s.size ≤ maxLen) :
    Calls Tryd.prog 68 #[.string s, fnv kf] w fun e w' => e = .returned (.pointer (some ⟨w.heap.size, 0, none⟩)) ∧ RdOK kf kw s w.heap.size (tokens kw s.data.toList) w' ∧ Keeps [] w w' := by
  go_enter Tryd.func68, Tryd.ntmps68
  go_wp2_with fail
  refine (next_any kf kw s w.heap.size 0 0 (.string ⟨#[]⟩) (.string ⟨#[]⟩) _ hs (Nat.zero_le _) hK.calls hK.str hK.ent ?_).mono ?_
  · exact block_alloc _ _
  rintro e w' ⟨rfl, hat', hk⟩
  have HA2 := Lib.hid hat'
  have HK2 := Lib.hid hk
  clear hat' hk
  go_wp2
  go_ret
  refine ⟨rfl, ⟨⟨_, HA2.out, ?_, ?_⟩, hs⟩, ?_⟩
  · have := hand_le kw s.data.toList 0 (Nat.zero_le _); simpa using this
  · exact toks_TL kw hkw s.data.toList _ 0 (Nat.zero_le _) (by omega)
  · exact ((Keeps.refl [] w).alloc _).trans HK2.out (fun m hm => by simp at hm; subst hm; exact Or.inr (Nat.le_refl _))

theorem ba_ext {a b : ByteArray} (h : a.data.toList = b.data.toList) : a = b := by
  have h1 := bs_of a
  rw [h, bs_of] at h1
  exact h1.symm

theorem kwIs (b : ByteArray) (l : Bytes) : (b.toList == (bs l).toList) = decide (b.data.toList = l) := by
  rw [ByteArray.toList_eq, ByteArray.toList_eq, bs_data]
  exact Bool.eq_iff_iff.2 (by simp)

set_option maxHeartbeats 1000000 in
theorem keyword_any (b : ByteArray) (w : World) : Calls Tryd.prog 69 #[.string b] w fun e w' => e = .returned (.bool (kwExp b.data.toList).isSome) ∧ w = w' := by
  go_enter Tryd.func69, Tryd.ntmps69
  go_wp2
  all_goals (go_ret; refine ⟨?_, rfl⟩)
  all_goals (simp only [ByteArray.toList_eq] at *; simp_all [kwExp])

theorem kwExpFn : KwFn 69 kwExp := ⟨keyword_any, kwExp_str, fun b W => by kernel_rfl⟩
end Go.Proofs.YtpbplpnifjbkoaaDoor

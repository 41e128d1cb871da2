/-
  text.New; the keyword functions.
-/
import Derived.Test.YtpbplpnifjbkoabGreatDoorRw
import Derived.Test.YtpbplpnifjbkoabGreatDoorTxt
namespace Go.Proofs.YtpbplpnifjbkoabGreatDoor
open Go.RowKit

theorem new_any {kf : Nat} {kw : Bytes → Option Kind} (hK : KwFn kf kw) (hkw : ∀ b k, kw b = some k → k ≠ .eof ∧ k ≠ .bad) (s : ByteArray) (w : World) (hs : s.size ≤ maxLen) :
    Calls Tryz.prog 85 #[.string s, fnv kf] w fun e w' => e = .returned (.pointer (some ⟨w.heap.size, 0, none⟩)) ∧ RdOK kf kw s w.heap.size (tokens kw s.data.toList) w' ∧ Keeps [] w w' := by
  go_enter Tryz.func85, Tryz.ntmps85
  go_wp2_with fail
  refine (next_any kf kw s w.heap.size 0 0 (.string ⟨#[]⟩) (.string ⟨#[]⟩) _ hs (Nat.zero_le _) hK.calls hK.str hK.ent ?_).mono ?_
  · exact block_alloc _ _
  rintro e w' ⟨rfl, hat', hk⟩
  have HA2 := Lib.hid hat'
  have HK2 := Lib.hid hk
  clear hat' hk
  go_wp2
  go_ret
  refine ⟨rfl, ⟨⟨_, HA2.out, ?_, ?_⟩, hs⟩, ?_⟩
  · have := hand_le kw s.data.toList 0 (Nat.zero_le _); simpa using this
  · exact toks_TL kw hkw s.data.toList _ 0 (Nat.zero_le _) (by omega)
  · exact ((Keeps.refl [] w).alloc _).trans HK2.out (fun m hm => by simp at hm; subst hm; exact Or.inr (Nat.le_refl _))

theorem ba_ext {a b : ByteArray} (h : a.data.toList = b.data.toList) : a = b := by
  have h1 := bs_of a
  rw [h, bs_of] at h1
  exact h1.symm

theorem kwIs (b : ByteArray) (l : Bytes) : (b.toList == (bs l).toList) = decide (b.data.toList = l) := by
  rw [ByteArray.toList_eq, ByteArray.toList_eq, bs_data]
  exact Bool.eq_iff_iff.2 (by simp)

set_option maxHeartbeats 1000000 in
theorem keyword_any (b : ByteArray) (w : World) : Calls Tryz.prog 86 #[.string b] w fun e w' => e = .returned (.bool (kwExp b.data.toList).isSome) ∧ w = w' := by
  go_enter Tryz.func86, Tryz.ntmps86
  go_wp2
  all_goals (go_ret; refine ⟨?_, rfl⟩)
  all_goals (simp only [ByteArray.toList_eq] at *; simp_all [kwExp])

theorem kwExpFn : KwFn 86 kwExp := ⟨keyword_any, kwExp_str, fun b W => by kernel_rfl⟩
end Go.Proofs.YtpbplpnifjbkoabGreatDoor

namespace Go.Proofs.YtpbplpnifjbkoabGreatDoor
open Go.RowKit

/-- A slice whose elements are one cell each, all in one block of [lo, hi). -/
def RowAt (w : World) (lo hi : Nat) (E : TypeId) (v : Value) (xs : List Value) : Prop :=
  (v = .slice none 0 0 ∧ xs = []) ∨
  ∃ g cap cur, v = .slice (some ⟨g, 0, none⟩) xs.length cap ∧ lo ≤ g ∧ g < hi ∧ w.heap[g]? = some (.cells cur E (0, 0)) ∧ xs.length ≤ cap ∧ cap ≤ maxLen ∧ cur.size = cap ∧ cur.toList.take xs.length = xs

theorem RowAt.keep {w w' : World} {lo hi : Nat} {E : TypeId} {v : Value} {xs : List Value} (h : RowAt w lo hi E v xs) (hk : ∀ b, lo ≤ b → b < hi → w'.heap[b]? = w.heap[b]?) : RowAt w' lo hi E v xs := by
  rcases h with h | ⟨g, cap, cur, h1, h2, h3, h4, h5⟩
  · exact .inl h
  · exact .inr ⟨g, cap, cur, h1, h2, h3, by rw [hk g h2 h3]; exact h4, h5⟩
theorem RowAt.widen {w : World} {lo hi lo' hi' : Nat} {E : TypeId} {v : Value} {xs : List Value} (h : RowAt w lo hi E v xs) (h1 : lo' ≤ lo) (h2 : hi ≤ hi') : RowAt w lo' hi' E v xs := by
  rcases h with h | ⟨g, cap, cur, e1, e2, e3, e4, e5⟩
  · exact .inl h
  · exact .inr ⟨g, cap, cur, e1, by omega, by omega, e4, e5⟩
theorem RowAt.of_owns {w : World} {base : Nat} {E : TypeId} {v : Value} {xs : List Value} (h : w.ownsRow base E 1 v xs.length xs) : RowAt w base w.heap.size E v xs := by
  have hlt := h.lt
  rcases h.2 with ⟨h1, h2⟩ | ⟨g, cap, cur, h1, h2, h3, h4, h5, h6, h7⟩
  · exact .inl ⟨h1, List.eq_nil_of_length_eq_zero h2⟩
  · subst h1
    exact .inr ⟨g, cap, cur, rfl, h2, (hlt g rfl).2, h3, h4, h5, by omega, by rw [Nat.mul_one] at h7; exact h7⟩

abbrev ifp (t b : Nat) : Value := .iface t (.pointer (some ⟨b, 0, none⟩))

/-- The value v is that expression; all its blocks lie in [lo, hi). For the tail of a let rec: its names, its bodies' values, v what it is for. -/
def ExprAt (w : World) (lo hi : Nat) : Exp → List Bytes → List Value → Value → Prop
  | .name p s, ns, vs, v => ns = [] ∧ vs = [] ∧ ∃ b, lo ≤ b ∧ b < hi ∧ v = ifp 207 b ∧ w.heap[b]? = some (.cells #[.int .i64 p, .string (bs s)] 210 (0, 0))
  | .num p s, ns, vs, v => ns = [] ∧ vs = [] ∧ ∃ b, lo ≤ b ∧ b < hi ∧ v = ifp 251 b ∧ w.heap[b]? = some (.cells #[.int .i64 p, .string (bs s)] 253 (0, 0))
  | .lam p x e, ns, vs, v => ns = [] ∧ vs = [] ∧ ∃ b ve, lo ≤ b ∧ b < hi ∧ v = ifp 212 b ∧ w.heap[b]? = some (.cells #[.int .i64 p, .string (bs x), ve] 214 (0, 0)) ∧ ExprAt w lo hi e [] [] ve
  | .app p f a, ns, vs, v => ns = [] ∧ vs = [] ∧ ∃ b vf va, lo ≤ b ∧ b < hi ∧ v = ifp 261 b ∧ w.heap[b]? = some (.cells #[.int .i64 p, vf, va] 263 (0, 0)) ∧ ExprAt w lo hi f [] [] vf ∧ ExprAt w lo hi a [] [] va
  | .pair p f a, ns, vs, v => ns = [] ∧ vs = [] ∧ ∃ b vf va, lo ≤ b ∧ b < hi ∧ v = ifp 254 b ∧ w.heap[b]? = some (.cells #[.int .i64 p, vf, va] 256 (0, 0)) ∧ ExprAt w lo hi f [] [] vf ∧ ExprAt w lo hi a [] [] va
  | .letin p x f a, ns, vs, v => ns = [] ∧ vs = [] ∧ ∃ b vf va, lo ≤ b ∧ b < hi ∧ v = ifp 215 b ∧ w.heap[b]? = some (.cells #[.int .i64 p, .string (bs x), vf, va] 217 (0, 0)) ∧ ExprAt w lo hi f [] [] vf ∧ ExprAt w lo hi a [] [] va
  | .cond p c f a, ns, vs, v => ns = [] ∧ vs = [] ∧ ∃ b vc vf va, lo ≤ b ∧ b < hi ∧ v = ifp 257 b ∧ w.heap[b]? = some (.cells #[.int .i64 p, vc, vf, va] 259 (0, 0)) ∧ ExprAt w lo hi c [] [] vc ∧ ExprAt w lo hi f [] [] vf ∧ ExprAt w lo hi a [] [] va
  | .recr p g, ns, vs, v => ns = [] ∧ vs = [] ∧ ∃ b ns' vs' sn sl vf, lo ≤ b ∧ b < hi ∧ v = ifp 218 b ∧ w.heap[b]? = some (.cells #[.int .i64 p, sn, sl, vf] 221 (0, 0)) ∧
      RowAt w lo hi 9 sn (ns'.map fun x => Value.string (bs x)) ∧ RowAt w lo hi 108 sl vs' ∧ ExprAt w lo hi g ns' vs' vf
  | .bnd x a g, ns, vs, v => ∃ ns' va vs', ns = x :: ns' ∧ vs = va :: vs' ∧ ExprAt w lo hi a [] [] va ∧ ExprAt w lo hi g ns' vs' v
  | .fin e, ns, vs, v => ns = [] ∧ vs = [] ∧ ExprAt w lo hi e [] [] v

theorem ExprAt.keep {w w' : World} {lo hi : Nat} (hk : ∀ b, lo ≤ b → b < hi → w'.heap[b]? = w.heap[b]?) (e : Exp) : ∀ ns vs v, ExprAt w lo hi e ns vs v → ExprAt w' lo hi e ns vs v := by
  induction e with
  | name p s => rintro ns vs v ⟨h1, h2, b, h3, h4, h5, h6⟩; exact ⟨h1, h2, b, h3, h4, h5, by rw [hk b h3 h4]; exact h6⟩
  | num p s => rintro ns vs v ⟨h1, h2, b, h3, h4, h5, h6⟩; exact ⟨h1, h2, b, h3, h4, h5, by rw [hk b h3 h4]; exact h6⟩
  | lam p x e ih => rintro ns vs v ⟨h1, h2, b, ve, h3, h4, h5, h6, h7⟩; exact ⟨h1, h2, b, ve, h3, h4, h5, by rw [hk b h3 h4]; exact h6, ih _ _ _ h7⟩
  | app p f a ihf iha => rintro ns vs v ⟨h1, h2, b, vf, va, h3, h4, h5, h6, h7, h8⟩; exact ⟨h1, h2, b, vf, va, h3, h4, h5, by rw [hk b h3 h4]; exact h6, ihf _ _ _ h7, iha _ _ _ h8⟩
  | pair p f a ihf iha => rintro ns vs v ⟨h1, h2, b, vf, va, h3, h4, h5, h6, h7, h8⟩; exact ⟨h1, h2, b, vf, va, h3, h4, h5, by rw [hk b h3 h4]; exact h6, ihf _ _ _ h7, iha _ _ _ h8⟩
  | letin p x f a ihf iha => rintro ns vs v ⟨h1, h2, b, vf, va, h3, h4, h5, h6, h7, h8⟩; exact ⟨h1, h2, b, vf, va, h3, h4, h5, by rw [hk b h3 h4]; exact h6, ihf _ _ _ h7, iha _ _ _ h8⟩
  | cond p c f a ihc ihf iha => rintro ns vs v ⟨h1, h2, b, vc, vf, va, h3, h4, h5, h6, h7, h8, h9⟩; exact ⟨h1, h2, b, vc, vf, va, h3, h4, h5, by rw [hk b h3 h4]; exact h6, ihc _ _ _ h7, ihf _ _ _ h8, iha _ _ _ h9⟩
  | recr p g ih => rintro ns vs v ⟨h1, h2, b, ns', vs', sn, sl, vf, h3, h4, h5, h6, h7, h8, h9⟩; exact ⟨h1, h2, b, ns', vs', sn, sl, vf, h3, h4, h5, by rw [hk b h3 h4]; exact h6, h7.keep hk, h8.keep hk, ih _ _ _ h9⟩
  | bnd x a g iha ihg => rintro ns vs v ⟨ns', va, vs', h1, h2, h3, h4⟩; exact ⟨ns', va, vs', h1, h2, iha _ _ _ h3, ihg _ _ _ h4⟩
  | fin e ih => rintro ns vs v ⟨h1, h2, h3⟩; exact ⟨h1, h2, ih _ _ _ h3⟩

theorem ExprAt.widen {w : World} {lo hi lo' hi' : Nat} (hl : lo' ≤ lo) (hh : hi ≤ hi') (e : Exp) : ∀ ns vs v, ExprAt w lo hi e ns vs v → ExprAt w lo' hi' e ns vs v := by
  induction e with
  | name p s => rintro ns vs v ⟨h1, h2, b, h3, h4, h5, h6⟩; exact ⟨h1, h2, b, by omega, by omega, h5, h6⟩
  | num p s => rintro ns vs v ⟨h1, h2, b, h3, h4, h5, h6⟩; exact ⟨h1, h2, b, by omega, by omega, h5, h6⟩
  | lam p x e ih => rintro ns vs v ⟨h1, h2, b, ve, h3, h4, h5, h6, h7⟩; exact ⟨h1, h2, b, ve, by omega, by omega, h5, h6, ih _ _ _ h7⟩
  | app p f a ihf iha => rintro ns vs v ⟨h1, h2, b, vf, va, h3, h4, h5, h6, h7, h8⟩; exact ⟨h1, h2, b, vf, va, by omega, by omega, h5, h6, ihf _ _ _ h7, iha _ _ _ h8⟩
  | pair p f a ihf iha => rintro ns vs v ⟨h1, h2, b, vf, va, h3, h4, h5, h6, h7, h8⟩; exact ⟨h1, h2, b, vf, va, by omega, by omega, h5, h6, ihf _ _ _ h7, iha _ _ _ h8⟩
  | letin p x f a ihf iha => rintro ns vs v ⟨h1, h2, b, vf, va, h3, h4, h5, h6, h7, h8⟩; exact ⟨h1, h2, b, vf, va, by omega, by omega, h5, h6, ihf _ _ _ h7, iha _ _ _ h8⟩
  | cond p c f a ihc ihf iha => rintro ns vs v ⟨h1, h2, b, vc, vf, va, h3, h4, h5, h6, h7, h8, h9⟩; exact ⟨h1, h2, b, vc, vf, va, by omega, by omega, h5, h6, ihc _ _ _ h7, ihf _ _ _ h8, iha _ _ _ h9⟩
  | recr p g ih => rintro ns vs v ⟨h1, h2, b, ns', vs', sn, sl, vf, h3, h4, h5, h6, h7, h8, h9⟩; exact ⟨h1, h2, b, ns', vs', sn, sl, vf, by omega, by omega, h5, h6, h7.widen hl hh, h8.widen hl hh, ih _ _ _ h9⟩
  | bnd x a g iha ihg => rintro ns vs v ⟨ns', va, vs', h1, h2, h3, h4⟩; exact ⟨ns', va, vs', h1, h2, iha _ _ _ h3, ihg _ _ _ h4⟩
  | fin e ih => rintro ns vs v ⟨h1, h2, h3⟩; exact ⟨h1, h2, ih _ _ _ h3⟩

/-- The expression reader at block r, over the token reader at block t. -/
structure PC (s : ByteArray) (r t : Nat) (ts : List Tok) (w : World) : Prop where
  rd : RdOK 86 kwExp s t ts w
  ptr : w.heap[r]? = some (.cells #[.pointer (some ⟨t, 0, none⟩)] 194 (0, 0))
  ne : r ≠ t
  lt : t < w.heap.size

theorem PC.of_rd {s : ByteArray} {r t : Nat} {ts ts' : List Tok} {w w' : World} (h : PC s r t ts w) (hk : Keeps [t] w w') (hr : RdOK 86 kwExp s t ts' w') : PC s r t ts' w' :=
  ⟨hr, hk.some h.ptr (by simpa using h.ne), h.ne, Nat.lt_of_lt_of_le h.lt hk.size⟩

/-- How a parser's call ends: from world w, with outcome res. -/
def PPost (s : ByteArray) (r t : Nat) (w : World) (f : Exp → Exp) (res : Except Nat (Exp × List Tok)) (e : Ending) (w' : World) : Prop :=
  match res with
  | .ok (x, ts) => ∃ ty bb : Nat, e = .returned (ifp ty bb) ∧ ExprAt w' w.heap.size w'.heap.size (f x) [] [] (ifp ty bb) ∧ PC s r t ts w' ∧ Keeps [t] w w'
  | .error p => e = .panicked [{ v := stopV p, recovered := false }] ∧ Keeps [t] w w'

theorem bind_some {α β : Type} {r : Res α} {f : α → List Tok → Res β} {res : Except Nat (β × List Tok)} (h : r.bind f = some res) :
    (∃ p, r = some (.error p) ∧ res = .error p) ∨ (∃ a ts, r = some (.ok (a, ts)) ∧ f a ts = some res) := by
  unfold Res.bind at h
  split at h
  · cases h
  · rename_i p; exact .inl ⟨p, rfl, by cases h; rfl⟩
  · rename_i a ts; exact .inr ⟨a, ts, rfl, h⟩
theorem want_cases {k : Kind} {ts : List Tok} {β : Type} {f : Bytes → List Tok → Res β} {res : Except Nat (β × List Tok)} (h : (want k ts).bind f = some res) :
    (headKind ts ≠ k ∧ res = .error (headPos ts)) ∨ (headKind ts = k ∧ f (headText ts) (adv ts) = some res) := by
  unfold want at h
  by_cases hk : headKind ts = k
  · rw [if_pos hk] at h; exact .inr ⟨hk, h⟩
  · rw [if_neg hk] at h; exact .inl ⟨hk, by simp only [Res.bind, Option.some.injEq] at h; exact h.symm⟩
theorem ExprAt.move {w w' : World} {lo hi lo' hi' : Nat} {e : Exp} {ns : List Bytes} {vs : List Value} {v : Value} {M : List Nat} (h : ExprAt w lo hi e ns vs v) (hk : Keeps M w w') (hs : hi ≤ w.heap.size)
    (hM : ∀ m ∈ M, m < lo ∨ hi ≤ m) (hl : lo' ≤ lo) (hh : hi ≤ hi') : ExprAt w' lo' hi' e ns vs v :=
  ExprAt.widen hl hh e _ _ _ (ExprAt.keep (fun b h1 h2 => hk.block b (by omega) (fun hm => by have := hM b hm; omega)) e _ _ _ h)
theorem PC.keep {s : ByteArray} {r t : Nat} {ts : List Tok} {w w' : World} {M : List Nat} (h : PC s r t ts w) (hk : Keeps M w w') (ht : t ∉ M) (hr : r ∉ M) : PC s r t ts w' := by
  refine ⟨⟨?_, h.rd.fit⟩, hk.some h.ptr hr, h.ne, Nat.lt_of_lt_of_le h.lt hk.size⟩
  obtain ⟨hd, hat, hn, hts⟩ := h.rd.ex
  exact ⟨hd, hk.some hat ht, hn, hts⟩
theorem PC.rlt {s : ByteArray} {r t : Nat} {ts : List Tok} {w : World} (h : PC s r t ts w) : r < w.heap.size := lt_of_some h.ptr
/-- What a parser's step has kept: blocks of [lo, hi) that are not the token reader's. -/
theorem keepRange {t lo hi : Nat} {w w' : World} (hk : Keeps [t] w w') (hlo : t < lo) (hhi : hi ≤ w.heap.size) : ∀ b, lo ≤ b → b < hi → w'.heap[b]? = w.heap[b]? :=
  fun b h1 h2 => hk.block b (by omega) (by simp; omega)
end Go.Proofs.YtpbplpnifjbkoabGreatDoor

namespace Go.Proofs.YtpbplpnifjbkoabGreatDoor
open Go.RowKit

def ExpIH (s : ByteArray) (r t n : Nat) : Prop :=
  ∀ ts w res, PC s r t ts w → pExp n ts = some res → Calls Tryz.prog 87 #[.pointer (some ⟨r, 0, none⟩)] w (PPost s r t w id res)
def AtomIH (s : ByteArray) (r t n : Nat) : Prop :=
  ∀ ts w res, PC s r t ts w → pAtom n ts = some res → Calls Tryz.prog 131 #[.pointer (some ⟨r, 0, none⟩)] w (PPost s r t w id res)

/-- A panic on the way: as an outcome of the whole. -/
theorem perr {s : ByteArray} {r t : Nat} {w w' : World} {f : Exp → Exp} {p : Nat} (hk : Keeps [t] w w') : PPost s r t w f (.error p) (.panicked [{ v := stopV p, recovered := false }]) w' := ⟨rfl, hk⟩

theorem kq (a b : Kind) : ((bs (kstr a)).toList == kstr b) = (a == b) := by rw [ByteArray.toList_eq, bs_data]; exact kstr_inj a b
end Go.Proofs.YtpbplpnifjbkoabGreatDoor

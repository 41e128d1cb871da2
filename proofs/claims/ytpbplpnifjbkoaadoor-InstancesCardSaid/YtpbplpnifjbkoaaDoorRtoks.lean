/-
  The document's tokens: the switch over what stands at a place.
-/
import Derived.Test.YtpbplpnifjbkoaaDoorRnode
import Derived.Deep.CutBlock
import Derived.Deep.DeepCutAuto
import Derived.Deep.LoopGhost
import Derived.Lib.SlBytesConst
namespace Go.Proofs.YtpbplpnifjbkoaaDoor
open Go.RowKit

/-- Three cells a token. -/
def tokCells (x : Tok × Bytes) : List Value := [.string (bs (rstr x.1.kind)), .string (bs x.2), .int .i64 (x.1.pos : Nat)]

/-- The document's first reading of a token: a word for its kind, how many bytes it takes. -/
def rawTok (l : Bytes) : Bytes × Nat :=
  match l with
  | [] => (kstr .eof, 0)
  | c :: r => if isSmall c then (rstr .name, spanLen isAlnum l) else if isDigit c then (rstr .num, spanLen isDigit l) else if c = 45 ∧ r.head? = some 62 then ([45, 62], 2)
    else if (signKind c).isSome then ([c], 1) else (kstr .bad, 0)
/-- A name or a number that is too long is none. -/
def raw1 (R : Bytes × Nat) : Bytes := if (R.1 = rstr .name ∨ R.1 = rstr .num) ∧ 8 < R.2 then kstr .bad else R.1
/-- A keyword is a kind of its own. -/
def signs : Bytes := [61, 40, 41, 44, 91, 93]
theorem sign_mem (c : UInt8) : (signKind c).isSome = decide (c ∈ signs) := by
  unfold signKind signs
  by_cases h1 : c = 61
  · simp [h1]
  by_cases h2 : c = 40
  · simp [h2]
  by_cases h3 : c = 41
  · simp [h3]
  by_cases h4 : c = 44
  · simp [h4]
  by_cases h5 : c = 91
  · simp [h5]
  by_cases h6 : c = 93
  · simp [h6]
  simp [h1, h2, h3, h4, h5, h6]
def signSt (c : UInt8) (q : Nat) : Bytes × Nat := if c ∈ signs.take q then ([c], 1) else (kstr .bad, 0)
theorem signSt_hit {c d : UInt8} {q : Nat} (hd : signs[q]? = some d) (h : c = d) : signSt c (q + 1) = ([c], 1) := by
  unfold signSt
  rw [if_pos]
  rw [List.take_add_one, hd, h]; simp
theorem signSt_miss {c d : UInt8} {q : Nat} (hd : signs[q]? = some d) (h : c ≠ d) : signSt c (q + 1) = signSt c q := by
  unfold signSt
  rw [List.take_add_one, hd]; simp [h]
theorem signSt_new {c d : UInt8} {q : Nat} (hq : q < 6) (hd : signs[q]? = some d) (h : c = d) : signSt c q = (kstr .bad, 0) := by
  unfold signSt
  rw [if_neg]
  have : q = 0 ∨ q = 1 ∨ q = 2 ∨ q = 3 ∨ q = 4 ∨ q = 5 := by omega
  rcases this with rfl | rfl | rfl | rfl | rfl | rfl <;> (simp [signs] at hd; subst hd; rw [h]; decide)
def kwFold (r x : Bytes) (l : List Bytes) : Bytes := if r = rstr .name ∧ x ∈ l then x else r
/-- The document's list of keywords. -/
structure KwList (kw : Bytes → Option Kind) (kws : List Bytes) : Prop where
  some : ∀ x k, kw x = some k → x ∈ kws ∧ rstr k = x ∧ k ≠ .eof ∧ k ≠ .bad ∧ k ≠ .name ∧ k ≠ .num
  none : ∀ x, kw x = none → x ∉ kws
  name : rstr .name ∉ kws
theorem bs_toList (l : Bytes) : (bs l).toList = l := by rw [ByteArray.toList_eq, bs_data]
theorem sign_facts (c : UInt8) (k : Kind) (h : signKind c = some k) : k ≠ .eof ∧ k ≠ .bad ∧ k ≠ .name ∧ k ≠ .num := by
  unfold signKind at h
  repeat (split at h; · cases h; decide)
  cases h
theorem rstr_k {k : Kind} (h : k ≠ .name ∧ k ≠ .num) : rstr k = kstr k := by cases k <;> first | rfl | exact absurd rfl h.1 | exact absurd rfl h.2
theorem kwFold_not {r x : Bytes} {l : List Bytes} (h : r ≠ rstr .name) : kwFold r x l = r := by unfold kwFold; rw [if_neg fun e => h e.1]
theorem raw_ok {kw : Bytes → Option Kind} {kws : List Bytes} (hk : KwList kw kws) (j : Nat) (l : Bytes) :
    rstr (tokAt kw j l).1.kind = kwFold (raw1 (rawTok l)) (l.take (rawTok l).2) kws ∧ ((tokAt kw j l).1.kind ≠ .bad → l.take (rawTok l).2 = (tokAt kw j l).1.text) ∧
    (last (tokAt kw j l).1 = false → (tokAt kw j l).2 = (rawTok l).2) ∧ (tokAt kw j l).1.pos = j := by
  have hbad : ∀ x, kwFold (kstr .bad) x kws = rstr .bad := fun x => kwFold_not (by decide)
  have hlast : ∀ (P : Prop), last ⟨.bad, [], j⟩ = false → P := fun P h => by simp [last] at h
  cases l with
  | nil =>
    refine ⟨?_, fun _ => rfl, fun _ => rfl, rfl⟩
    exact (kwFold_not (r := kstr .eof) (by decide)).symm
  | cons c r =>
    unfold tokAt rawTok
    simp only
    by_cases hs : isSmall c = true
    · simp only [hs, if_true]
      by_cases h8 : 8 < spanLen isAlnum (c :: r)
      · have hr : raw1 (rstr .name, spanLen isAlnum (c :: r)) = kstr .bad := by unfold raw1; rw [if_pos ⟨.inl rfl, h8⟩]
        rw [if_pos h8, hr]
        exact ⟨(hbad _).symm, fun h => absurd rfl h, hlast _, rfl⟩
      · have hr : raw1 (rstr .name, spanLen isAlnum (c :: r)) = rstr .name := by unfold raw1; rw [if_neg fun h => h8 h.2]
        rw [if_neg h8, hr]
        generalize (c :: r).take (spanLen isAlnum (c :: r)) = x
        refine ⟨?_, fun _ => rfl, fun _ => rfl, rfl⟩
        unfold kwFold
        cases hx : kw x with
        | none => rw [if_neg (by simp [hk.none x hx])]; rfl
        | some k => obtain ⟨h1, h2, _⟩ := hk.some x k hx; rw [if_pos ⟨rfl, h1⟩]; exact h2
    · simp only [hs, if_false, Bool.false_eq_true]
      by_cases hd : isDigit c = true
      · simp only [hd, if_true]
        by_cases h8 : 8 < spanLen isDigit (c :: r)
        · have hr : raw1 (rstr .num, spanLen isDigit (c :: r)) = kstr .bad := by unfold raw1; rw [if_pos ⟨.inr rfl, h8⟩]
          rw [if_pos h8, hr]
          exact ⟨(hbad _).symm, fun h => absurd rfl h, hlast _, rfl⟩
        · have hr : raw1 (rstr .num, spanLen isDigit (c :: r)) = rstr .num := by unfold raw1; rw [if_neg fun h => h8 h.2]
          rw [if_neg h8, hr]
          exact ⟨(kwFold_not (r := rstr .num) (by decide)).symm, fun _ => rfl, fun _ => rfl, rfl⟩
      · simp only [hd, if_false, Bool.false_eq_true]
        by_cases ha : c = 45 ∧ r.head? = some 62
        · rw [if_pos ha, if_pos ha]
          obtain ⟨rfl, hr⟩ := ha
          refine ⟨(kwFold_not (r := [45, 62]) (by decide)).symm, fun _ => ?_, fun _ => rfl, rfl⟩
          cases r with
          | nil => cases hr
          | cons d r => simp at hr; subst hr; rfl
        · rw [if_neg ha, if_neg ha]
          cases hg : signKind c with
          | none => exact ⟨(hbad _).symm, fun h => absurd rfl h, hlast _, rfl⟩
          | some k =>
            simp only [Option.isSome_some, if_true]
            obtain ⟨h1, h2, h3⟩ := sign_facts c k hg
            have hkk := signKind_str c k hg
            have e1 : ([c] : Bytes) ≠ rstr .name := by intro e; cases e
            have e2 : ([c] : Bytes) ≠ rstr .num := by intro e; cases e
            have hr : raw1 ([c], 1) = [c] := by unfold raw1; rw [if_neg fun h => h.1.elim e1 e2]
            rw [hr]
            exact ⟨by rw [kwFold_not e1, rstr_k h3, hkk], fun _ => rfl, fun _ => by first | rfl | trivial, by first | rfl | trivial⟩

theorem bb_name {R : Bytes × Nat} {k j : Nat} (hk : k = j + R.2) (h : (bs R.1).toList = [110, 97, 109, 101]) : Value.bool (decide (8 < (k : Int) - (j : Int))) = Value.bool (decide ((R.1 = rstr .name ∨ R.1 = rstr .num) ∧ 8 < R.2)) := by
  rw [bs_toList] at h
  congr 1
  subst hk
  simp only [h, decide_eq_decide]
  constructor
  · exact fun _ => ⟨.inl rfl, by omega⟩
  · exact fun _ => by omega
theorem bb_num {R : Bytes × Nat} {k j : Nat} (hk : k = j + R.2) (h : (bs R.1).toList = [110, 117, 109]) : Value.bool (decide (8 < (k : Int) - (j : Int))) = Value.bool (decide ((R.1 = rstr .name ∨ R.1 = rstr .num) ∧ 8 < R.2)) := by
  rw [bs_toList] at h
  congr 1
  subst hk
  simp only [h, decide_eq_decide]
  constructor
  · exact fun _ => ⟨.inr rfl, by omega⟩
  · exact fun _ => by omega
theorem bb_none {R : Bytes × Nat} (h : ¬ (bs R.1).toList = [110, 97, 109, 101]) (h2 : ¬ (bs R.1).toList = [110, 117, 109]) : Value.bool false = Value.bool (decide ((R.1 = rstr .name ∨ R.1 = rstr .num) ∧ 8 < R.2)) := by
  rw [bs_toList] at h h2
  congr 1
  symm
  simp only [decide_eq_false_iff_not]
  rintro ⟨h3 | h3, _⟩
  · exact h h3
  · exact h2 h3
theorem kwFold_hit {r x m : Bytes} {l : List Bytes} (_hl : rstr .name ∉ l) (h : kwFold r x l = rstr .name) (hx : x = m) : kwFold r x (l ++ [m]) = m := by
  unfold kwFold at h ⊢
  by_cases hr : r = rstr .name
  · rw [if_pos ⟨hr, by simp [hx]⟩, hx]
  · rw [if_neg fun e => hr e.1] at h; exact absurd h hr
theorem kwFold_miss {r x m : Bytes} {l : List Bytes} (h : kwFold r x l ≠ rstr .name ∨ x ≠ m) : kwFold r x (l ++ [m]) = kwFold r x l := by
  unfold kwFold at h ⊢
  by_cases hr : r = rstr .name
  · by_cases hm : x ∈ l
    · rw [if_pos ⟨hr, by simp [hm]⟩, if_pos ⟨hr, hm⟩]
    · have e1 : ¬ (r = rstr .name ∧ x ∈ l) := fun e => hm e.2
      rw [if_neg e1] at h ⊢
      rcases h with h | h
      · exact absurd hr h
      · rw [if_neg fun e => by simp [hm, h] at e]
  · rw [if_neg fun e => hr e.1, if_neg fun e => hr e.1]

theorem span_pos {p : UInt8 → Bool} {c : UInt8} {r : Bytes} (h : p c = true) : 0 < spanLen p (c :: r) := by unfold spanLen; rw [if_pos h]; omega
theorem raw_pos {kw : Bytes → Option Kind} (j : Nat) (l : Bytes) (h : last (tokAt kw j l).1 = false) : 0 < (rawTok l).2 := by
  cases l with
  | nil => simp [tokAt, last] at h
  | cons c r =>
    unfold tokAt at h
    unfold rawTok
    simp only at h ⊢
    by_cases hs : isSmall c = true
    · rw [if_pos hs]; exact span_pos (by simp [isAlnum, hs])
    · rw [if_neg hs] at h ⊢
      by_cases hd : isDigit c = true
      · rw [if_pos hd]; exact span_pos hd
      · rw [if_neg hd] at h ⊢
        by_cases ha : c = 45 ∧ r.head? = some 62
        · rw [if_pos ha]; decide
        · rw [if_neg ha] at h ⊢
          cases hg : signKind c with
          | none => rw [hg] at h; simp [last] at h
          | some k => simp
theorem last_iff {t : Tok} : last t = true ↔ rstr t.kind = kstr .bad ∨ rstr t.kind = kstr .eof := by
  unfold last
  cases t.kind <;> decide

/-- The token in the making, in block B. -/
structure TkW (w0 : World) (B j : Nat) (r x : Bytes) (v5 : Value) (acc : List (Tok × Bytes)) (wx : World) : Prop where
  blk : wx.heap[B]? = some (.cells #[.string (bs r), .string (bs x), .int .i64 (j : Nat)] 122 (0, 0))
  own : wx.ownsRow w0.heap.size 122 3 v5 acc.length (acc.flatMap tokCells)
  kp : Keeps [] w0 wx
  far : v5.ownBlock ≠ some B
  ge : w0.heap.size ≤ B
theorem TkW.set0 {w0 : World} {B j : Nat} {r x : Bytes} {v5 : Value} {acc : List (Tok × Bytes)} {wx : World} (h : TkW w0 B j r x v5 acc wx) (r' : Bytes) : TkW w0 B j r' x v5 acc (wx.setCell ⟨B, 0, none⟩ (.string (bs r'))) := by
  refine ⟨by have := block_setCell h.blk 0 (.string (bs r')); simpa using this, ?_, h.kp.setCell (Or.inr h.ge) _, h.far, h.ge⟩
  exact ⟨h.own.1, h.own.2.imp id fun ⟨g, cap, cur, h1, h2, h3, h4⟩ => ⟨g, cap, cur, h1, h2, block_setCell_other h3 _ _ (fun e => h.far (by rw [h1]; simpa [Value.ownBlock] using e)), h4⟩⟩
theorem TkW.set1 {w0 : World} {B j : Nat} {r x : Bytes} {v5 : Value} {acc : List (Tok × Bytes)} {wx : World} (h : TkW w0 B j r x v5 acc wx) (x' : Bytes) : TkW w0 B j r x' v5 acc (wx.setCell ⟨B, 1, none⟩ (.string (bs x'))) := by
  refine ⟨by have := block_setCell h.blk 1 (.string (bs x')); simpa using this, ?_, h.kp.setCell (Or.inr h.ge) _, h.far, h.ge⟩
  exact ⟨h.own.1, h.own.2.imp id fun ⟨g, cap, cur, h1, h2, h3, h4⟩ => ⟨g, cap, cur, h1, h2, block_setCell_other h3 _ _ (fun e => h.far (by rw [h1]; simpa [Value.ownBlock] using e)), h4⟩⟩
theorem TkW.drew {w0 : World} {B j : Nat} {r x : Bytes} {v5 : Value} {acc : List (Tok × Bytes)} {wx : World} (h : TkW w0 B j r x v5 acc wx) (n : Nat) : TkW w0 B j r x v5 acc (wx.drewN n) := ⟨h.blk, h.own, h.kp.drewN n, h.far, h.ge⟩
theorem TkW.lt {w0 : World} {B j : Nat} {r x : Bytes} {v5 : Value} {acc : List (Tok × Bytes)} {wx : World} (h : TkW w0 B j r x v5 acc wx) : B < wx.heap.size := lt_of_some h.blk

/-- A block of a function's code, by its number. -/
def findB (n : Nat) : Code → Option Code
  | .block m c => if m = n then some (.block m c) else findB n c
  | .loop c => findB n c
  | .scope c => findB n c
  | .seq a b => match findB n a with
    | some c => some c
    | none => findB n b
  | .cond _ a b => match findB n a with
    | some c => some c
    | none => findB n b
  | _ => none
noncomputable def tokBlk : Code := (Tryd.f23.body.bind (findB 4)).getD .skip

set_option maxRecDepth 1000000 in
set_option maxHeartbeats 4000000 in
/-- The switch over what stands there. -/
theorem tok_switch {s : ByteArray} (hs : s.size ≤ 300) {j : Nat} (hjs : j ≤ s.size) {w W : World} {B : Nat} {acc : List (Tok × Bytes)} {u1 u4 u5 u10 u12 u13 u14 u15 u16 u17 u18 u19 u20 u21 u22 u23 u24 u25 u26 u27 u28 u29 u30 u31 u32 u33 u34 u35 u36 u37 u38 u39 u40 u41 u42 u43 u44 u45 u46 u47 u48 u49 u50 u51 u52 u53 u54 u55 u56 u57 u58 u59 u60 u61 u62 u63 u64 u65 u66 u67 u68 u69 u70 u71 u72 u73 u74 u75 u76 u77 u78 u79 u80 u81 u82 u83 u84 u85 u86 u87 u88 u89 u90 u91 u92 u93 u94 u95 u96 u97 u98 u99 u100 u101 u102 u103 u104 u105 u106 u107 u108 u109 u110 u111 u112 u113 u114 u115 u116 u117 u118 u119 u120 u121 u122 u123 u124 u125 u126 u127 u128 u129 u130 u131 u132 u133 u134 u135 u136 u137 u138 u139 u140 u141 u142 u143 u144 u145 u146 u147 u148 u149 u150 u151 u152 u153 u154 u155 u156 u157 u158 u159 u160 u161 u162 u163 u164 u165 u166 u167 u168 u169 u170 u171 u172 u173 u174 u175 u176 : Value} (T0 : Hid (TkW w B j (kstr .bad) [] u5 acc W))
    {K : Act → World → Prop} {Q' : Exit → Act → World → Prop}
    (hK : ∀ (k : Nat) (x10 x34 x35 x36 x37 x38 x39 x40 x41 x42 x43 x44 x45 x46 x47 x48 x49 x50 x51 x52 x53 x54 x55 x56 x57 x58 x59 x60 x61 x62 x63 x64 x65 x66 x67 x68 x69 x70 x71 x72 x73 x74 x75 x76 x77 x78 x79 x80 x81 x82 x83 x84 x85 x86 x87 x88 x89 x90 x91 x92 x93 x94 x95 x96 x97 x98 x99 x100 x101 x102 x103 x104 x105 x106 x107 x108 x109 x110 x111 x112 x113 x114 x115 x116 x117 x118 x119 x120 x121 x122 x123 x124 : Value) (wx : World), j ≤ k ∧ k ≤ s.size ∧ k = j + (rawTok (s.data.toList.drop j)).2 ∧ TkW w B j (rawTok (s.data.toList.drop j)).1 [] u5 acc wx → K ⟨List.toArray ((.string s) :: u1 :: undef :: undef :: u4 :: u5 :: (.int .i64 (j : Nat)) :: (.pointer (some ⟨B, 0, none⟩)) :: (.int .i64 (k : Nat)) :: undef :: x10 :: undef :: u12 :: u13 :: u14 :: u15 :: u16 :: u17 :: u18 :: u19 :: u20 :: u21 :: u22 :: u23 :: u24 :: u25 :: u26 :: u27 :: u28 :: u29 :: u30 :: u31 :: u32 :: u33 :: x34 :: x35 :: x36 :: x37 :: x38 :: x39 :: x40 :: x41 :: x42 :: x43 :: x44 :: x45 :: x46 :: x47 :: x48 :: x49 :: x50 :: x51 :: x52 :: x53 :: x54 :: x55 :: x56 :: x57 :: x58 :: x59 :: x60 :: x61 :: x62 :: x63 :: x64 :: x65 :: x66 :: x67 :: x68 :: x69 :: x70 :: x71 :: x72 :: x73 :: x74 :: x75 :: x76 :: x77 :: x78 :: x79 :: x80 :: x81 :: x82 :: x83 :: x84 :: x85 :: x86 :: x87 :: x88 :: x89 :: x90 :: x91 :: x92 :: x93 :: x94 :: x95 :: x96 :: x97 :: x98 :: x99 :: x100 :: x101 :: x102 :: x103 :: x104 :: x105 :: x106 :: x107 :: x108 :: x109 :: x110 :: x111 :: x112 :: x113 :: x114 :: x115 :: x116 :: x117 :: x118 :: x119 :: x120 :: x121 :: x122 :: x123 :: x124 :: u125 :: u126 :: u127 :: u128 :: u129 :: u130 :: u131 :: u132 :: u133 :: u134 :: u135 :: u136 :: u137 :: u138 :: u139 :: u140 :: u141 :: u142 :: u143 :: u144 :: u145 :: u146 :: u147 :: u148 :: u149 :: u150 :: u151 :: u152 :: u153 :: u154 :: u155 :: u156 :: u157 :: u158 :: u159 :: u160 :: u161 :: u162 :: u163 :: u164 :: u165 :: u166 :: u167 :: u168 :: u169 :: u170 :: u171 :: u172 :: u173 :: u174 :: u175 :: u176 :: []), []⟩ wx) :
    tokBlk.wp Tryd.prog (Exit.then K Q') ⟨List.toArray ((.string s) :: u1 :: undef :: undef :: u4 :: u5 :: (.int .i64 (j : Nat)) :: (.pointer (some ⟨B, 0, none⟩)) :: (.int .i64 (j : Nat)) :: undef :: u10 :: undef :: u12 :: u13 :: u14 :: u15 :: u16 :: u17 :: u18 :: u19 :: u20 :: u21 :: u22 :: u23 :: u24 :: u25 :: u26 :: u27 :: u28 :: u29 :: u30 :: u31 :: u32 :: u33 :: u34 :: u35 :: u36 :: u37 :: u38 :: u39 :: u40 :: u41 :: u42 :: u43 :: u44 :: u45 :: u46 :: u47 :: u48 :: u49 :: u50 :: u51 :: u52 :: u53 :: u54 :: u55 :: u56 :: u57 :: u58 :: u59 :: u60 :: u61 :: u62 :: u63 :: u64 :: u65 :: u66 :: u67 :: u68 :: u69 :: u70 :: u71 :: u72 :: u73 :: u74 :: u75 :: u76 :: u77 :: u78 :: u79 :: u80 :: u81 :: u82 :: u83 :: u84 :: u85 :: u86 :: u87 :: u88 :: u89 :: u90 :: u91 :: u92 :: u93 :: u94 :: u95 :: u96 :: u97 :: u98 :: u99 :: u100 :: u101 :: u102 :: u103 :: u104 :: u105 :: u106 :: u107 :: u108 :: u109 :: u110 :: u111 :: u112 :: u113 :: u114 :: u115 :: u116 :: u117 :: u118 :: u119 :: u120 :: u121 :: u122 :: u123 :: u124 :: u125 :: u126 :: u127 :: u128 :: u129 :: u130 :: u131 :: u132 :: u133 :: u134 :: u135 :: u136 :: u137 :: u138 :: u139 :: u140 :: u141 :: u142 :: u143 :: u144 :: u145 :: u146 :: u147 :: u148 :: u149 :: u150 :: u151 :: u152 :: u153 :: u154 :: u155 :: u156 :: u157 :: u158 :: u159 :: u160 :: u161 :: u162 :: u163 :: u164 :: u165 :: u166 :: u167 :: u168 :: u169 :: u170 :: u171 :: u172 :: u173 :: u174 :: u175 :: u176 :: []), []⟩ W := by
  conv => arg 2; whnf
  go_cut [8, 10] from 34 to 124 (fun v8 _ wx => ∃ k : Nat, v8 = .int .i64 k ∧ j ≤ k ∧ k ≤ s.size ∧ k = j + (rawTok (s.data.toList.drop j)).2 ∧ TkW w B j (rawTok (s.data.toList.drop j)).1 [] u5 acc wx)
  case first =>
      have f0 : W.frozen? ⟨B, 0, none⟩ = false := free_of_block T0.out.blk 0
      have c0 : W.cell? ⟨B, 0, none⟩ = some (.string (bs (kstr .bad))) := cell_of_block T0.out.blk 0
      have hBW : B < W.heap.size := T0.out.lt
      by_cases hlt : j < s.size
      · have hde : ((j : Int) == (s.size : Int)) = false := by simp; omega
        go_wp2_with fail
        refine (low_any s[j] _).mono ?_
        rintro e w' ⟨rfl, rfl⟩
        cases hsm : isSmall s[j]
        · go_wp2_with fail
          refine (fig_any s[j] _).mono ?_
          rintro e w' ⟨rfl, rfl⟩
          cases hdg : isDigit s[j]
          · have hdrop := List.drop_eq_getElem_cons (show j < s.data.toList.length by simpa using hlt)
            have hraw1 : (s[j] = 45 ∧ ∃ h : j + 1 < s.size, s[j + 1] = 62) → rawTok (s.data.toList.drop j) = ([45, 62], 2) := by
              rintro ⟨h45, hlt1, h62⟩
              unfold rawTok
              rw [hdrop]
              have hh : (s.data.toList.drop (j + 1)).head? = some 62 := by
                rw [head_drop s.data.toList j (by simpa using hlt1), ba_get s (j + 1) hlt1, h62]
              simp only [ba_get s j hlt, h45, hh]
              rw [if_neg (by decide), if_neg (by decide), if_pos (by decide)]
            have hraw2 : ¬ (s[j] = 45 ∧ ∃ h : j + 1 < s.size, s[j + 1] = 62) → rawTok (s.data.toList.drop j) = if (signKind s[j]).isSome then ([s[j]], 1) else (kstr .bad, 0) := by
              intro ha
              unfold rawTok
              rw [hdrop]
              have hh : ¬ (s[j] = 45 ∧ (s.data.toList.drop (j + 1)).head? = some 62) := by
                rintro ⟨h1, h2⟩
                refine ha ⟨h1, ?_⟩
                by_cases hl : j + 1 < s.size
                · refine ⟨hl, ?_⟩
                  rw [head_drop s.data.toList j (by simpa using hl), ba_get s (j + 1) hl] at h2
                  simpa using h2
                · rw [List.drop_eq_nil_of_le (by simp; omega)] at h2; cases h2
              simp only [ba_get s j hlt, hsm, hdg, Bool.false_eq_true, if_false]
              rw [if_neg hh]
            obtain ⟨bb, hbb⟩ : ∃ bb, bb = decide (s[j] = 45 ∧ ∃ h : j + 1 < s.size, s[j + 1] = 62) := ⟨_, rfl⟩
            have HBB := Lib.hid hbb
            have HR1 := Lib.hid hraw1
            have HR2 := Lib.hid hraw2
            clear hraw1 hraw2 hdrop hsm hdg hbb
            go_upto_region 24 with fail
            go_cut [103] from 90 to 124 (fun v103 wx => v103 = .bool bb ∧ W = wx)
            case first =>
              by_cases h1 : s[j] = 45
              · have e45 : ((s[j].toNat : Int) == 45) = true := by rw [h1]; rfl
                by_cases h2 : j + 1 < s.size
                · have hd1 : decide ((j : Int) + 1 < (s.size : Int)) = true := by simp; omega
                  by_cases h3 : s[j + 1] = 62
                  · have e62 : ((s[j + 1].toNat : Int) == 62) = true := by rw [h3]; rfl
                    have hb : bb = true := by rw [HBB.out]; simp [h1, h2, h3]
                    have HB := Lib.hid hb
                    clear h1 h3 hb
                    go_wp2_with fail
                    go_meet
                    exact ⟨by rw [HB.out], rfl⟩
                  · have e62 : ((s[j + 1].toNat : Int) == 62) = false := by
                      simp only [beq_eq_false_iff_ne, ne_eq]
                      intro e; apply h3; apply UInt8.toNat_inj.1; simp; omega
                    have hb : bb = false := by rw [HBB.out]; simp [h1, h2, h3]
                    have HB := Lib.hid hb
                    clear h1 h3 hb
                    go_wp2_with fail
                    go_meet
                    exact ⟨by rw [HB.out], rfl⟩
                · have hd1 : decide ((j : Int) + 1 < (s.size : Int)) = false := by simp; omega
                  have hb : bb = false := by rw [HBB.out]; simp [h2]
                  have HB := Lib.hid hb
                  clear h1 hb
                  go_wp2_with fail
                  go_meet
                  exact ⟨by rw [HB.out], rfl⟩
              · have e45 : ((s[j].toNat : Int) == 45) = false := by
                  simp only [beq_eq_false_iff_ne, ne_eq]
                  intro e; apply h1; apply UInt8.toNat_inj.1; simp; omega
                have hb : bb = false := by rw [HBB.out]; simp [h1]
                have HB := Lib.hid hb
                clear h1 hb
                go_wp2_with fail
                go_meet
                exact ⟨by rw [HB.out], rfl⟩
            case rest =>
              obtain ⟨rfl, rfl⟩ := hcut
              cases bb
              · have hraw := HR2.out (by have := HBB.out; simpa using this)
                have HRW := Lib.hid hraw
                clear hraw HR1 HR2 HBB
                have kc := fun (w : World) (C : Array Value) (n c : Nat) => Lib.run_convert_bytes_const (P := Tryd.prog) w 124 5 C n c Tryd.underlying124 Tryd.underlying5
                go_wp2_with fail
                have T1 := Lib.hid (show TkW w B j (kstr .bad) [] u5 acc (W.alloc (.cells #[.int .u8 61, .int .u8 40, .int .u8 41, .int .u8 44, .int .u8 91, .int .u8 93] 5 (6, 7))) from
                  ⟨block_alloc_old T0.out.blk, T0.out.own.alloc _, T0.out.kp.alloc _, T0.out.far, T0.out.ge⟩)
                have S1 := Lib.hid (block_alloc W (.cells #[.int .u8 61, .int .u8 40, .int .u8 41, .int .u8 44, .int .u8 91, .int .u8 93] 5 (6, 7)))
                have hne : B ≠ W.heap.size := by have := T0.out.lt; omega
                clear kc f0 c0 T0 hBW
                revert T1 S1 hne
                generalize W.alloc (.cells #[.int .u8 61, .int .u8 40, .int .u8 41, .int .u8 44, .int .u8 91, .int .u8 93] 5 (6, 7)) = W2
                generalize W.heap.size = SB
                intro T1 S1 hne
                go_loopg [8, 37] 6 (fun gg v8 v37 wx => ∃ q : Nat, gg = 6 - q ∧ v37 = .int .i64 q ∧ q ≤ 6 ∧ v8 = .int .i64 (j + (signSt s[j] q).2 : Nat) ∧ TkW w B j (signSt s[j] q).1 [] u5 acc wx ∧ wx.heap[SB]? = some (.cells #[.int .u8 61, .int .u8 40, .int .u8 41, .int .u8 44, .int .u8 91, .int .u8 93] 5 (6, 7)))
                case atStart => exact ⟨0, rfl, rfl, by omega, rfl, T1.out, S1.out⟩
                case round =>
                  clear T1 S1
                  obtain ⟨q, hgq, rfl, hq6, rfl, hT, hS⟩ := hrel
                  have HGQ := Lib.hid hgq
                  have T1 := Lib.hid hT
                  have S1 := Lib.hid hS
                  have f0 : wr.frozen? ⟨B, 0, none⟩ = false := free_of_block hT.blk 0
                  have c0 : wr.cell? ⟨B, 0, none⟩ = some (.string (bs (signSt s[j] q).1)) := cell_of_block hT.blk 0
                  have hBW : B < wr.heap.size := hT.lt
                  have hsc := cell_of_block hS q
                  clear hgq hT hS
                  by_cases hlt6 : q < 6
                  · obtain ⟨d, hd⟩ : ∃ d, signs[q]? = some d := ⟨_, List.getElem?_eq_getElem (show q < signs.length from hlt6)⟩
                    have hcell : wr.cell? ⟨SB, q, none⟩ = some (.int .u8 (d.toNat : Int)) := by
                      rw [hsc]
                      have : q = 0 ∨ q = 1 ∨ q = 2 ∨ q = 3 ∨ q = 4 ∨ q = 5 := by omega
                      rcases this with rfl | rfl | rfl | rfl | rfl | rfl <;> (simp [signs] at hd; subst hd; rfl)
                    have hdl : decide ((q : Int) < 6) = true := by simp; omega
                    have hqi : (q : Int) < 6 := by omega
                    clear hsc
                    have HD := Lib.hid hd
                    clear hd
                    by_cases he : s[j] = d
                    · have hq : ((s[j].toNat : Int) == (d.toNat : Int)) = true := by rw [he]; simp
                      have hnew := signSt_new hlt6 HD.out he
                      have HNW := Lib.hid hnew
                      have HE := Lib.hid he
                      rw [hnew] at c0 T1 ⊢
                      have hex : s.extract j (j + 1) = bs [s[j]] := by
                        have := bs_extract s.data.toList j (j + 1)
                        rw [bs_of] at this
                        rw [this, List.drop_eq_getElem_cons (show j < s.data.toList.length by simpa using hlt), ba_get s j hlt]
                        simp
                      have HEX := Lib.hid hex
                      have hj1 : (j : Int) + 1 ≤ (s.size : Int) := by omega
                      clear he hnew hex
                      go_wp2_with fail
                      go_roundg (6 - (q + 1))
                      case measure => have := HGQ.out; omega
                      case rel =>
                        refine ⟨q + 1, rfl, by go_num, by omega, ?_, ?_, ?_⟩
                        · rw [signSt_hit HD.out HE.out]; go_num
                        · rw [signSt_hit HD.out HE.out, HEX.out]
                          exact T1.out.set0 _
                        · exact block_setCell_other S1.out _ _ (Ne.symm hne)
                    · have hq : ((s[j].toNat : Int) == (d.toNat : Int)) = false := by
                        simp only [beq_eq_false_iff_ne, ne_eq]
                        intro e; apply he; apply UInt8.toNat_inj.1; omega
                      have HE := Lib.hid he
                      clear he
                      go_wp2_with fail
                      go_roundg (6 - (q + 1))
                      case measure => have := HGQ.out; omega
                      case rel =>
                        refine ⟨q + 1, rfl, by go_num, by omega, ?_, ?_, S1.out⟩
                        · rw [signSt_miss HD.out HE.out]
                        · rw [signSt_miss HD.out HE.out]; exact T1.out
                  · obtain rfl : q = 6 := by omega
                    clear hsc
                    have hfin : rawTok (s.data.toList.drop j) = signSt s[j] 6 := by
                      rw [HRW.out, sign_mem]
                      unfold signSt
                      rw [show signs.take 6 = signs from rfl]
                      by_cases h : s[j] ∈ signs <;> simp [h]
                    have HF := Lib.hid hfin
                    clear hfin
                    have hle : (signSt s[j] 6).2 ≤ 1 := by unfold signSt; split <;> simp
                    go_wp2_with fail
                    go_meet
                    rw [HF.out]
                    exact ⟨_, rfl, by omega, by omega, rfl, T1.out⟩
              · have hraw := HR1.out (by have := HBB.out; simpa using this)
                have hlt1 : j + 1 < s.size := by have := HBB.out; simp at this; exact this.2.1
                have HRW := Lib.hid hraw
                clear hraw HR1 HR2 HBB
                go_wp2_with fail
                go_meet
                rw [HRW.out]
                exact ⟨j + 2, by go_num, by omega, by omega, rfl, T0.out.set0 [45, 62]⟩
          · have HSM := Lib.hid (And.intro hsm hdg)
            clear hsm hdg
            go_wp2_with fail
            go_loopg [8] (s.size - j) (fun g v wx => ∃ q : Nat, g = s.size - q ∧ v = .int .i64 q ∧ j ≤ q ∧ q ≤ s.size ∧ spanLen isDigit (s.data.toList.drop j) = (q - j) + spanLen isDigit (s.data.toList.drop q) ∧ W = wx)
            case atStart => exact ⟨j, rfl, rfl, Nat.le_refl _, hjs, by simp, rfl⟩
            case round =>
              obtain ⟨q, hgq, rfl, hjq, hqs, hsp, rfl⟩ := hrel
              have HG2 := Lib.hid hgq
              have HSP2 := Lib.hid hsp
              clear hgq hsp
              by_cases hmore : ∃ h : q < s.size, isDigit s[q] = true
              · obtain ⟨hqlt, hal⟩ := hmore
                have hdq : decide ((q : Int) < (s.size : Int)) = true := by simp; omega
                have hnext : spanLen isDigit (s.data.toList.drop j) = (q + 1 - j) + spanLen isDigit (s.data.toList.drop (q + 1)) := by
                  rw [HSP2.out, spanLen_true isDigit s.data.toList q (by simpa using hqlt) (by rw [ba_get s q hqlt]; exact hal)]
                  omega
                have HN := Lib.hid hnext
                clear hnext
                have hq2 := hal
                clear hal
                go_wp2_with (first | (go_at_call 47; refine (low_any s[q] _).mono ?_; rintro e w' ⟨rfl, rfl⟩) | (go_at_call 48; refine (fig_any s[q] _).mono ?_; rintro e w' ⟨rfl, rfl⟩))
                go_roundg (s.size - (q + 1))
                case measure => have := HG2.out; omega
                case rel => exact ⟨q + 1, rfl, by go_num, by omega, by omega, HN.out, rfl⟩
              · have hL : spanLen isDigit (s.data.toList.drop j) = q - j := by
                  have h0 : spanLen isDigit (s.data.toList.drop q) = 0 := by
                    by_cases hqlt : q < s.size
                    · refine spanLen_false isDigit _ q (by simpa using hqlt) ?_
                      rw [ba_get s q hqlt]
                      cases hb : isDigit s[q]
                      · rfl
                      · exact absurd ⟨hqlt, hb⟩ hmore
                    · exact spanLen_end isDigit _ q (by simp; omega)
                  rw [HSP2.out, h0]; rfl
                have hraw : rawTok (s.data.toList.drop j) = (rstr .num, q - j) := by
                  rw [← hL]
                  have := List.drop_eq_getElem_cons (show j < s.data.toList.length by simpa using hlt)
                  unfold rawTok
                  rw [this]
                  simp only [ba_get s j hlt, HSM.out.1, HSM.out.2]
                  simp only [if_true, if_false, Bool.false_eq_true]
                have HRW := Lib.hid hraw
                clear hL hraw
                by_cases hqlt : q < s.size
                · have hdq : decide ((q : Int) < (s.size : Int)) = true := by simp; omega
                  have hq2 : isDigit s[q] = false := by
                    cases h2 : isDigit s[q] <;> first | rfl | exact absurd ⟨hqlt, h2⟩ hmore
                  clear hmore
                  go_wp2_with (first | (go_at_call 47; refine (low_any s[q] _).mono ?_; rintro e w' ⟨rfl, rfl⟩) | (go_at_call 48; refine (fig_any s[q] _).mono ?_; rintro e w' ⟨rfl, rfl⟩))
                  go_meet
                  rw [HRW.out]
                  exact ⟨q, rfl, hjq, hqs, by omega, T0.out.set0 _⟩
                · have hdq : decide ((q : Int) < (s.size : Int)) = false := by simp; omega
                  clear hmore
                  go_wp2_with (first | (go_at_call 47; refine (low_any s[q] _).mono ?_; rintro e w' ⟨rfl, rfl⟩) | (go_at_call 48; refine (fig_any s[q] _).mono ?_; rintro e w' ⟨rfl, rfl⟩))
                  go_meet
                  rw [HRW.out]
                  exact ⟨q, rfl, hjq, hqs, by omega, T0.out.set0 _⟩
        · have HSM := Lib.hid hsm
          clear hsm
          go_wp2_with fail
          go_loopg [8] (s.size - j) (fun g v wx => ∃ q : Nat, g = s.size - q ∧ v = .int .i64 q ∧ j ≤ q ∧ q ≤ s.size ∧ spanLen isAlnum (s.data.toList.drop j) = (q - j) + spanLen isAlnum (s.data.toList.drop q) ∧ W = wx)
          case atStart => exact ⟨j, rfl, rfl, Nat.le_refl _, hjs, by simp, rfl⟩
          case round =>
            obtain ⟨q, hgq, rfl, hjq, hqs, hsp, rfl⟩ := hrel
            have HG2 := Lib.hid hgq
            have HSP2 := Lib.hid hsp
            clear hgq hsp
            by_cases hmore : ∃ h : q < s.size, isAlnum s[q] = true
            · obtain ⟨hqlt, hal⟩ := hmore
              have hdq : decide ((q : Int) < (s.size : Int)) = true := by simp; omega
              have hnext : spanLen isAlnum (s.data.toList.drop j) = (q + 1 - j) + spanLen isAlnum (s.data.toList.drop (q + 1)) := by
                rw [HSP2.out, spanLen_true isAlnum s.data.toList q (by simpa using hqlt) (by rw [ba_get s q hqlt]; exact hal)]
                omega
              have HN := Lib.hid hnext
              clear hnext
              cases hq1 : isSmall s[q]
              · have hq2 : isDigit s[q] = true := by simpa [isAlnum, hq1] using hal
                clear hal
                go_wp2_with (first | (go_at_call 47; refine (low_any s[q] _).mono ?_; rintro e w' ⟨rfl, rfl⟩) | (go_at_call 48; refine (fig_any s[q] _).mono ?_; rintro e w' ⟨rfl, rfl⟩))
                go_roundg (s.size - (q + 1))
                case measure => have := HG2.out; omega
                case rel => exact ⟨q + 1, rfl, by go_num, by omega, by omega, HN.out, rfl⟩
              · clear hal
                go_wp2_with (first | (go_at_call 47; refine (low_any s[q] _).mono ?_; rintro e w' ⟨rfl, rfl⟩) | (go_at_call 48; refine (fig_any s[q] _).mono ?_; rintro e w' ⟨rfl, rfl⟩))
                go_roundg (s.size - (q + 1))
                case measure => have := HG2.out; omega
                case rel => exact ⟨q + 1, rfl, by go_num, by omega, by omega, HN.out, rfl⟩
            · have hL : spanLen isAlnum (s.data.toList.drop j) = q - j := by
                have h0 : spanLen isAlnum (s.data.toList.drop q) = 0 := by
                  by_cases hqlt : q < s.size
                  · refine spanLen_false isAlnum _ q (by simpa using hqlt) ?_
                    rw [ba_get s q hqlt]
                    cases hb : isAlnum s[q]
                    · rfl
                    · exact absurd ⟨hqlt, hb⟩ hmore
                  · exact spanLen_end isAlnum _ q (by simp; omega)
                rw [HSP2.out, h0]; rfl
              have hraw : rawTok (s.data.toList.drop j) = (rstr .name, q - j) := by
                rw [← hL]
                have := List.drop_eq_getElem_cons (show j < s.data.toList.length by simpa using hlt)
                unfold rawTok
                rw [this]
                simp only [ba_get s j hlt, HSM.out]
                simp only [if_true]
              have HRW := Lib.hid hraw
              clear hL hraw
              by_cases hqlt : q < s.size
              · have hdq : decide ((q : Int) < (s.size : Int)) = true := by simp; omega
                obtain ⟨hq1, hq2⟩ : isSmall s[q] = false ∧ isDigit s[q] = false := by
                  cases h1 : isSmall s[q] <;> cases h2 : isDigit s[q] <;> first | exact ⟨rfl, rfl⟩ | exact absurd ⟨hqlt, by simp [isAlnum, h1, h2]⟩ hmore
                clear hmore
                go_wp2_with (first | (go_at_call 47; refine (low_any s[q] _).mono ?_; rintro e w' ⟨rfl, rfl⟩) | (go_at_call 48; refine (fig_any s[q] _).mono ?_; rintro e w' ⟨rfl, rfl⟩))
                go_meet
                rw [HRW.out]
                exact ⟨q, rfl, hjq, hqs, by omega, T0.out.set0 _⟩
              · have hdq : decide ((q : Int) < (s.size : Int)) = false := by simp; omega
                clear hmore
                go_wp2_with (first | (go_at_call 47; refine (low_any s[q] _).mono ?_; rintro e w' ⟨rfl, rfl⟩) | (go_at_call 48; refine (fig_any s[q] _).mono ?_; rintro e w' ⟨rfl, rfl⟩))
                go_meet
                rw [HRW.out]
                exact ⟨q, rfl, hjq, hqs, by omega, T0.out.set0 _⟩
      · have hde : ((j : Int) == (s.size : Int)) = true := by simp; omega
        have hraw : rawTok (s.data.toList.drop j) = (kstr .eof, 0) := by rw [List.drop_eq_nil_of_le (by simp; omega)]; rfl
        have HRW := Lib.hid hraw
        clear hraw
        go_wp2_with fail
        go_meet
        rw [HRW.out]
        exact ⟨j, rfl, Nat.le_refl _, hjs, rfl, T0.out.set0 _⟩
  case rest =>
    obtain ⟨k, rfl, hk⟩ := hcut
    exact hK _ _ _ _ _ _ _ _ _ _ _ _ _ _ _ _ _ _ _ _ _ _ _ _ _ _ _ _ _ _ _ _ _ _ _ _ _ _ _ _ _ _ _ _ _ _ _ _ _ _ _ _ _ _ _ _ _ _ _ _ _ _ _ _ _ _ _ _ _ _ _ _ _ _ _ _ _ _ _ _ _ _ _ _ _ _ _ _ _ _ _ _ _ _ hk
end Go.Proofs.YtpbplpnifjbkoaaDoor

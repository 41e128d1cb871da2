/-
  The plain model of the inference: substitutions, schemes, rounds. No program in sight.
-/
import Derived.Test.YtpbplpnifjbkoabGreatDoorTypl
namespace Go.Proofs.YtpbplpnifjbkoabGreatDoor

/-- What variables stand for: entry i - 1 of variable i, all found out. -/
abbrev Sub := List Ty
def Sub.look (S : Sub) (n : Nat) : Ty := S.getD (n - 1) (.var n)
def Ty.ap (S : Sub) : Ty → Ty
  | .var n => Sub.look S n
  | .int => .int
  | .bool => .bool
  | .list a => .list (a.ap S)
  | .pair a b => .pair (a.ap S) (b.ap S)
  | .arr a b => .arr (a.ap S) (b.ap S)
/-- A type put for one variable. -/
def Ty.sub1 (x : Nat) (u : Ty) : Ty → Ty
  | .var n => if n = x then u else .var n
  | .int => .int
  | .bool => .bool
  | .list a => .list (Ty.sub1 x u a)
  | .pair a b => .pair (Ty.sub1 x u a) (Ty.sub1 x u b)
  | .arr a b => .arr (Ty.sub1 x u a) (Ty.sub1 x u b)
def Sub.bind (S : Sub) (x : Nat) (u : Ty) : Sub := S.map (Ty.sub1 x u)
def Ty.hasB (x : Nat) : Ty → Bool
  | .var n => x == n
  | .int => false
  | .bool => false
  | .list a => a.hasB x
  | .pair a b => a.hasB x || b.hasB x
  | .arr a b => a.hasB x || b.hasB x

/-- Two types made equal: none: out of fuel; some none: they cannot be. -/
def unF : Nat → Sub → Ty → Ty → Option (Option Sub)
  | 0, _, _, _ => none
  | f + 1, S, a, b =>
    match a.ap S, b.ap S with
    | .var x, b => if b = .var x then some (some S) else if b.hasB x then some none else some (some (Sub.bind S x b))
    | a, .var y => if a.hasB y then some none else some (some (Sub.bind S y a))
    | .int, .int => some (some S)
    | .bool, .bool => some (some S)
    | .list a, .list b => unF f S a b
    | .pair a c, .pair b d => (unF f S a b).bind fun r => match r with | some S => unF f S c d | none => some none
    | .arr a c, .arr b d => (unF f S a b).bind fun r => match r with | some S => unF f S c d | none => some none
    | _, _ => some none

/-- A scheme: a type; the variables that stand for any type. -/
structure Sch where
  t : Ty
  all : List Nat
/-- What names stand for: the innermost first. -/
abbrev Env := List (Bytes × Sch)

/-- What was told of a round: names, its number, schemes as texts. -/
structure Told where
  names : List Bytes
  round : Nat
  texts : List Bytes
structure St where
  S : Sub
  told : List Told

/-- What a step comes to: none: out of what this model reckons; a fault; an answer and the state behind it. -/
abbrev M (α : Type) := Option (Except (Nat × List Told) (α × St))
def M.bind {α β : Type} (r : M α) (f : α → St → M β) : M β :=
  match r with
  | none => none
  | some (.error p) => some (.error p)
  | some (.ok (a, s)) => f a s

def fresh (S : Sub) : Option (Nat × Sub) := if S.length < 100000 then some (S.length + 1, S ++ [.var (S.length + 1)]) else none

/-- A fresh instance of what has been found out; mp: which variable stands for which. -/
def inst (all : List Nat) : Ty → List (Nat × Nat) → Sub → Option (Ty × List (Nat × Nat) × Sub)
  | .var v, mp, S =>
    if v ∈ all then
      match mp.lookup v with
      | some u => some (.var u, mp, S)
      | none => (fresh S).bind fun p => some (.var p.1, (v, p.1) :: mp, p.2)
    else some (.var v, mp, S)
  | .int, mp, S => some (.int, mp, S)
  | .bool, mp, S => some (.bool, mp, S)
  | .list a, mp, S => (inst all a mp S).bind fun p => some (.list p.1, p.2)
  | .pair a b, mp, S => (inst all a mp S).bind fun p => (inst all b p.2.1 p.2.2).bind fun q => some (.pair p.1 q.1, q.2)
  | .arr a b, mp, S => (inst all a mp S).bind fun p => (inst all b p.2.1 p.2.2).bind fun q => some (.arr p.1 q.1, q.2)

/-- Is a variable free in a name's type? -/
def freeIn (S : Sub) : Env → Nat → Bool
  | [], _ => false
  | (_, s) :: r, v => ((s.t.ap S).hasB v && !s.all.contains v) || freeIn S r v
/-- A scheme of all variables that are free in no name's type. -/
def gen (S : Sub) (env : Env) (t : Ty) : Sch := ⟨t.ap S, (varsL (t.ap S) []).filter fun v => !freeIn S env v⟩

/-- How great the types of an environment are. -/
def envSize (S : Sub) : Env → Nat
  | [] => 0
  | (_, s) :: r => (s.t.ap S).size + envSize S r
/-- Beyond what this model reckons. -/
def tooGreat (S : Sub) (env : Env) (t : Ty) : Bool := decide (100000 < envSize S env + (t.ap S).size)
/-- Are two types the same but for the names of what stands for any type? -/
def alikeT (a b : List Nat) : Ty → Ty → List (Nat × Nat) → List (Nat × Nat) → Option (List (Nat × Nat) × List (Nat × Nat))
  | .var v, .var w, to, fr =>
    if v ∈ a ∧ w ∈ b then
      match to.lookup v, fr.lookup w with
      | none, none => some ((v, w) :: to, (w, v) :: fr)
      | x, y => if x = some w ∧ y = some v then some (to, fr) else none
    else if ¬ v ∈ a ∧ ¬ w ∈ b ∧ v = w then some (to, fr) else none
  | .int, .int, to, fr => some (to, fr)
  | .bool, .bool, to, fr => some (to, fr)
  | .list x, .list y, to, fr => alikeT a b x y to fr
  | .pair x u, .pair y v, to, fr => (alikeT a b x y to fr).bind fun p => alikeT a b u v p.1 p.2
  | .arr x u, .arr y v, to, fr => (alikeT a b x y to fr).bind fun p => alikeT a b u v p.1 p.2
  | _, _, _, _ => none
def alikeS (S : Sub) (a b : Sch) : Bool := (alikeT a.all b.all (a.t.ap S) (b.t.ap S) [] []).isSome

/-- A scheme's text: own letters for what stands for any type, '_' and a letter for others. -/
def toldT (all : List Nat) : Ty → List Nat → List Nat → Bytes × List Nat × List Nat
  | .var v, own, oth => if v ∈ all then (letter (own.idxOf v), met v own, oth) else (95 :: letter (oth.idxOf v), own, met v oth)
  | .int, own, oth => ([105, 110, 116], own, oth)
  | .bool, own, oth => ([98, 111, 111, 108], own, oth)
  | .list a, own, oth => let p := toldT all a own oth; ([91] ++ p.1 ++ [93], p.2)
  | .pair a b, own, oth => let p := toldT all a own oth; let q := toldT all b p.2.1 p.2.2; ([40] ++ p.1 ++ [44, 32] ++ q.1 ++ [41], q.2)
  | .arr a b, own, oth => let p := toldT all a own oth; let q := toldT all b p.2.1 p.2.2; ((if isArr a then par p.1 else p.1) ++ [32, 45, 62, 32] ++ q.1, q.2)
def toldL (S : Sub) : List Sch → List Nat → List Bytes
  | [], _ => []
  | s :: r, oth => let p := toldT s.all (s.t.ap S) [] oth; p.1 :: toldL S r p.2.2

/-- Names bound, the last innermost. -/
def bindAll : List Bytes → List Sch → Env → Env
  | n :: ns, s :: ss, e => bindAll ns ss ((n, s) :: e)
  | _, _, e => e
/-- As many fresh ones, each a scheme by itself. -/
def starts : Nat → Sub → Option (List Sch × Sub)
  | 0, S => some ([], S)
  | k + 1, S => (fresh S).bind fun p => (starts k p.2).bind fun q => some (⟨.var p.1, [p.1]⟩ :: q.1, q.2)
def allAlike (S : Sub) : List Sch → List Sch → Bool
  | a :: r, b :: q => alikeS S a b && allAlike S r q
  | _, _ => true

/-- The rounds: bd: the bodies' types by an environment; fr: what it is for. watch: at which telling it is stopped (none: nobody watches). -/
def rounds (watch : Option Nat) (names : List Bytes) (env : Env) (bd : Env → St → M (List Ty)) (fr : Env → St → M Ty) : Nat → Nat → List Sch → St → M Ty
  | 0, _, _, st => some (.error (9, st.told))
  | k + 1, no, ss, st =>
    (bd (bindAll names ss env) st).bind fun l st =>
      if l.any (tooGreat st.S env) then none else
      let next := l.map (gen st.S env)
      let same := allAlike st.S ss next
      match watch with
      | none => if same then fr (bindAll names next env) st else rounds watch names env bd fr k (no + 1) next st
      | some stop =>
        let st' : St := ⟨st.S, st.told ++ [⟨names, no, toldL st.S next []⟩]⟩
        if st'.told.length = stop then some (.error (10, st'.told))
        else if same then fr (bindAll names next env) st' else rounds watch names env bd fr k (no + 1) next st'

def unify (uf : Nat) (a b : Ty) (st : St) : M Unit :=
  match unF uf st.S a b with
  | none => none
  | some none => some (.error (7, st.told))
  | some (some S) => some (.ok ((), ⟨S, st.told⟩))
def newVar (st : St) : M Ty :=
  match fresh st.S with
  | none => none
  | some p => some (.ok (.var p.1, ⟨p.2, st.told⟩))
/-- A type's size is looked at. -/
def sized (t : Ty) (st : St) : M Ty := if 120 < (t.ap st.S).size then some (.error (8, st.told)) else some (.ok (t, st))

mutual
def ofE (uf : Nat) (fuel : Nat) (watch : Option Nat) : Exp → Env → St → M Ty
  | .num _ _, _, st => sized .int st
  | .name _ x, env, st =>
    match env.lookup x with
    | none => none
    | some s => match inst s.all (s.t.ap st.S) [] st.S with
      | none => none
      | some p => sized p.1 ⟨p.2.2, st.told⟩
  | .lam _ x b, env, st => (newVar st).bind fun v st => (ofE uf fuel watch b ((x, ⟨v, []⟩) :: env) st).bind fun t st => sized (.arr v t) st
  | .app _ f a, env, st => (ofE uf fuel watch f env st).bind fun t st => (ofE uf fuel watch a env st).bind fun u st => (newVar st).bind fun v st =>
      (unify uf t (.arr u v) st).bind fun _ st => sized v st
  | .pair _ a b, env, st => (ofE uf fuel watch a env st).bind fun t st => (ofE uf fuel watch b env st).bind fun u st => sized (.pair t u) st
  | .cond _ c a b, env, st => (ofE uf fuel watch c env st).bind fun t st => (unify uf t .bool st).bind fun _ st => (ofE uf fuel watch a env st).bind fun u st =>
      (ofE uf fuel watch b env st).bind fun v st => (unify uf u v st).bind fun _ st => sized u st
  | .letin _ x a b, env, st => (ofE uf fuel watch a env st).bind fun t st => if tooGreat st.S env t then none else (ofE uf fuel watch b ((x, gen st.S env t) :: env) st).bind sized
  | .recr _ g, env, st =>
    match starts (gNames g).length st.S with
    | none => none
    | some p => (rounds watch (gNames g) env (bodiesE uf fuel watch g) (forE uf fuel watch g) fuel 1 p.1 ⟨p.2, st.told⟩).bind sized
  | .bnd _ _ _, _, _ => none
  | .fin _, _, _ => none
def bodiesE (uf : Nat) (fuel : Nat) (watch : Option Nat) : Exp → Env → St → M (List Ty)
  | .bnd _ a g, env, st => (ofE uf fuel watch a env st).bind fun t st => (bodiesE uf fuel watch g env st).bind fun l st => some (.ok (t :: l, st))
  | _, _, st => some (.ok ([], st))
def forE (uf : Nat) (fuel : Nat) (watch : Option Nat) : Exp → Env → St → M Ty
  | .bnd _ _ g, env, st => forE uf fuel watch g env st
  | .fin b, env, st => ofE uf fuel watch b env st
  | _, _, _ => none
end

/-- The first name that stands for nothing: where, which. -/
def unbound : Exp → List Bytes → Option (Nat × Bytes)
  | .name p s, l => if s ∈ l then none else some (p, s)
  | .num _ _, _ => none
  | .lam _ x b, l => unbound b (x :: l)
  | .app _ f a, l => (unbound f l).or (unbound a l)
  | .pair _ f a, l => (unbound f l).or (unbound a l)
  | .letin _ x a b, l => (unbound a l).or (unbound b (x :: l))
  | .recr _ g, l => unbound g (gNames g ++ l)
  | .bnd _ a g, l => (unbound a l).or (unbound g l)
  | .fin b, l => unbound b l
  | .cond _ c a b, l => (unbound c l).or ((unbound a l).or (unbound b l))

/-- An answer's fault, as package plain tells it. -/
structure FaultR where
  what : Nat
  at_ : Nat
  s : Bytes
  inner : Nat
  innerAt : Nat
  deriving DecidableEq

/-- A type with its variables moved on. -/
def Ty.shift (k : Nat) : Ty → Ty
  | .var n => .var (n + k)
  | .int => .int
  | .bool => .bool
  | .list a => .list (a.shift k)
  | .pair a b => .pair (a.shift k) (b.shift k)
  | .arr a b => .arr (a.shift k) (b.shift k)
def isName (n : Bytes) : Bool := match tokens kwExp n with
  | t :: _ => t.kind == .name && t.text == n
  | [] => false
/-- The environment, by names rising. -/
def envOf : List (Bytes × Bytes) → Sub → Env → Except FaultR (Env × Sub)
  | [], S, e => .ok (e, S)
  | (n, t) :: r, S, e =>
    if isName n then
      match readTyp t with
      | .error f => .error ⟨5, 0, n, f.1, f.2⟩
      | .ok (u, ns) =>
        let u := u.shift (S.length + 1)
        envOf r (S ++ (List.range ns.length).map fun i => .var (S.length + i + 1)) ((n, ⟨u, varsL u []⟩) :: e)
    else .error ⟨5, 0, n, 0, 0⟩

/-- The answer. -/
def inferP (uf : Nat) (src : Bytes) (env : List (Bytes × Bytes)) (fuel : Int) (watch : Option Nat) : Option (Bytes × FaultR × List Told) :=
  match readExp src with
  | .error f => some ([], ⟨f.1, if f.1 = 2 then f.2 else 0, [], 0, 0⟩, [])
  | .ok x =>
    if fuel < 1 ∨ 12 < fuel then some ([], ⟨6, 0, [], 0, 0⟩, []) else
    match envOf env [] [] with
    | .error f => some ([], f, [])
    | .ok (e, S) =>
      match unbound x (e.map (·.1)) with
      | some (p, s) => some ([], ⟨4, p, s, 0, 0⟩, [])
      | none =>
        match ofE uf fuel.toNat watch x e ⟨S, []⟩ with
        | none => none
        | some (.error (f, l)) => some ([], ⟨f, 0, [], 0, 0⟩, l)
        | some (.ok (t, st)) => some (canon (t.ap st.S), ⟨0, 0, [], 0, 0⟩, st.told)
end Go.Proofs.YtpbplpnifjbkoabGreatDoor

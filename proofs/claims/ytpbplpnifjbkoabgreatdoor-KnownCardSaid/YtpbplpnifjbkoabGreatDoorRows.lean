/-
  NARROWER THAN 'FOR EVERY INPUT', by the rows' own cells (each row's printed sentence says how): Chain: laid · Endless: laid · Watches: laid · Known: laid · Same: laid.
  DERIVED. THE GIVEN ROWS OF THIS SEAT. 5 by the template 'for every input the law returns true; each argument reads behind the call as it read before'; 0 by the template 'total and deterministic' (their statements: YtpbplpnifjbkoabGreatDoorTotals.lean).
  GIVEN WITH THE SEED: the statements are not yours to turn. If you find one false, say at which input.
  Laid BY PROGRAM, IN A SANDBOX (cutbox-rows.mjs): the forced cells as the released guide's own fill.sh prints them over the translation 76dc117dab73d509… (all of the seat's roots in one cut). By AI agents, Wed Nov 11 2026. No macro, syntax, notation, axiom, sorry.
-/
import Derived.Test.YtpbplpnifjbkoabGreatDoorChecked
import GoSem.Claim
import GoSem.ClaimJoined
import GoSem.ClaimMapViews
import Derived.JoinedTies
import Derived.KernelRfl
namespace Go.Proofs.YtpbplpnifjbkoabGreatDoor
/- THE CELL 'sum', in the pinned program and in every row, IS THE sha256 OF THE DUMP (.gsa) THAT YtpbplpnifjbkoabGreatDoorProg.lean LOADS. Nothing in Lean hashes anything: it is a label: what it is worth is what the hold of that sum in a sandbox is worth. -/
noncomputable def Tryz.pinned : Pinned := { name := "ytpbplpnifjbkoabgreatdoor", sum := "76dc117dab73d5096544a966e2925fc3d4565fcd5ebd452f520b20b596abd39c", checked := Tryz.checked }
namespace Rows
def none {H : Type} : Left H := { results := [], args := [] }

/- WHAT THE LISTED PACKAGE-LEVEL VARIABLES READ AS WHEN THE CALL BEGINS. Each datum BY PROGRAM (the guide's laid-datum.mjs) off the statement by which the dump's own 'gosem.cut.vars' lays the variable. In a bare row this is a premise. The card (YtpbplpnifjbkoabGreatDoorCards.lean) ties it to the program's text. -/
def laid_math_bits_deBruijn32tab {H : Type} : DataW H := .agg [.lit (.int .u8 0), .lit (.int .u8 1), .lit (.int .u8 28), .lit (.int .u8 2), .lit (.int .u8 29), .lit (.int .u8 14), .lit (.int .u8 24), .lit (.int .u8 3), .lit (.int .u8 30), .lit (.int .u8 22), .lit (.int .u8 20), .lit (.int .u8 15), .lit (.int .u8 25), .lit (.int .u8 17), .lit (.int .u8 4), .lit (.int .u8 8), .lit (.int .u8 31), .lit (.int .u8 27), .lit (.int .u8 13), .lit (.int .u8 23), .lit (.int .u8 21), .lit (.int .u8 19), .lit (.int .u8 16), .lit (.int .u8 7), .lit (.int .u8 26), .lit (.int .u8 12), .lit (.int .u8 18), .lit (.int .u8 6), .lit (.int .u8 11), .lit (.int .u8 5), .lit (.int .u8 10), .lit (.int .u8 9)]
def laid_math_bits_deBruijn64tab {H : Type} : DataW H := .agg [.lit (.int .u8 0), .lit (.int .u8 1), .lit (.int .u8 56), .lit (.int .u8 2), .lit (.int .u8 57), .lit (.int .u8 49), .lit (.int .u8 28), .lit (.int .u8 3), .lit (.int .u8 61), .lit (.int .u8 58), .lit (.int .u8 42), .lit (.int .u8 50), .lit (.int .u8 38), .lit (.int .u8 29), .lit (.int .u8 17), .lit (.int .u8 4), .lit (.int .u8 62), .lit (.int .u8 47), .lit (.int .u8 59), .lit (.int .u8 36), .lit (.int .u8 45), .lit (.int .u8 43), .lit (.int .u8 51), .lit (.int .u8 22), .lit (.int .u8 53), .lit (.int .u8 39), .lit (.int .u8 33), .lit (.int .u8 30), .lit (.int .u8 24), .lit (.int .u8 18), .lit (.int .u8 12), .lit (.int .u8 5), .lit (.int .u8 63), .lit (.int .u8 55), .lit (.int .u8 48), .lit (.int .u8 27), .lit (.int .u8 60), .lit (.int .u8 41), .lit (.int .u8 37), .lit (.int .u8 16), .lit (.int .u8 46), .lit (.int .u8 35), .lit (.int .u8 44), .lit (.int .u8 21), .lit (.int .u8 52), .lit (.int .u8 32), .lit (.int .u8 23), .lit (.int .u8 11), .lit (.int .u8 54), .lit (.int .u8 26), .lit (.int .u8 40), .lit (.int .u8 15), .lit (.int .u8 34), .lit (.int .u8 20), .lit (.int .u8 31), .lit (.int .u8 10), .lit (.int .u8 25), .lit (.int .u8 14), .lit (.int .u8 19), .lit (.int .u8 9), .lit (.int .u8 13), .lit (.int .u8 8), .lit (.int .u8 7), .lit (.int .u8 6)]
def laid_internal_strconv_uint64pow10 {H : Type} : DataW H := .agg [.lit (.int .u64 1), .lit (.int .u64 10), .lit (.int .u64 100), .lit (.int .u64 1000), .lit (.int .u64 10000), .lit (.int .u64 100000), .lit (.int .u64 1000000), .lit (.int .u64 10000000), .lit (.int .u64 100000000), .lit (.int .u64 1000000000), .lit (.int .u64 10000000000), .lit (.int .u64 100000000000), .lit (.int .u64 1000000000000), .lit (.int .u64 10000000000000), .lit (.int .u64 100000000000000), .lit (.int .u64 1000000000000000), .lit (.int .u64 10000000000000000), .lit (.int .u64 100000000000000000), .lit (.int .u64 1000000000000000000), .lit (.int .u64 10000000000000000000)]
def laid_errors_errorType {H : Type} : DataW H := .iface "internal/reflectlite.rtype" (.agg [.ptr (.lit (.string [101, 114, 114, 111, 114]))])
def laid_schemes_api_ErrLong {H : Type} : DataW H := .iface "*errors.errorString" (.ptr (.agg [.lit (.string [116, 111, 111, 32, 108, 111, 110, 103])]))
def laid_schemes_api_ErrDeep {H : Type} : DataW H := .iface "*errors.errorString" (.ptr (.agg [.lit (.string [116, 111, 111, 32, 109, 97, 110, 121, 32, 112, 97, 114, 116, 115, 32, 119, 105, 116, 104, 105, 110, 32, 101, 97, 99, 104, 32, 111, 116, 104, 101, 114])]))
def laid_schemes_api_ErrArg {H : Type} : DataW H := .iface "*errors.errorString" (.ptr (.agg [.lit (.string [97, 32, 110, 117, 109, 98, 101, 114, 32, 111, 102, 32, 114, 111, 117, 110, 100, 115, 32, 116, 104, 97, 116, 32, 105, 115, 32, 110, 111, 110, 101])]))
def laid_schemes_api_ErrType {H : Type} : DataW H := .iface "*errors.errorString" (.ptr (.agg [.lit (.string [105, 116, 32, 104, 97, 115, 32, 110, 111, 32, 116, 121, 112, 101])]))
def laid_schemes_api_ErrBig {H : Type} : DataW H := .iface "*errors.errorString" (.ptr (.agg [.lit (.string [97, 32, 116, 121, 112, 101, 32, 116, 104, 97, 116, 32, 105, 115, 32, 116, 111, 111, 32, 98, 105, 103])]))
def laid_schemes_api_ErrFuel {H : Type} : DataW H := .iface "*errors.errorString" (.ptr (.agg [.lit (.string [109, 111, 114, 101, 32, 114, 111, 117, 110, 100, 115, 32, 97, 114, 101, 32, 110, 101, 101, 100, 101, 100])]))
def laid_schemes_api_ErrStopped {H : Type} : DataW H := .iface "*errors.errorString" (.ptr (.agg [.lit (.string [115, 116, 111, 112, 112, 101, 100])]))
def laid_schemes_api_ErrNot {H : Type} : DataW H := .iface "*errors.errorString" (.ptr (.agg [.lit (.string [105, 116, 32, 105, 115, 32, 110, 111, 32, 105, 110, 115, 116, 97, 110, 99, 101])]))

/-- 'schemeskeep.Chain': WHATEVER THE INPUT: true; the input reads as it did. -/
def chainSpec : ChangeSpec := { name := "chain", fn := fun _ => fun
  | [d1, d2] => { results := [.lit (.bool true)], args := [d1, d2] }
  | _ => none }
def chainRow : OpenClaim := { program := "ytpbplpnifjbkoabgreatdoor", sum := "76dc117dab73d5096544a966e2925fc3d4565fcd5ebd452f520b20b596abd39c", func := "schemes/schemeskeep.Chain", spec := "chain", inPlace := ["internal/reflectlite.ValueOf", "(internal/reflectlite.Value).Type", "(internal/reflectlite.Value).IsNil", "internal/reflectlite.TypeOf", "(internal/reflectlite.Value).Elem", "(internal/reflectlite.Value).Set"], unfollowed := true, recurses := true, named := ["schemes/api.ErrArg", "schemes/api.ErrLong", "schemes/api.ErrDeep", "schemes/api.ErrBig", "schemes/api.ErrType", "schemes/api.ErrStopped", "schemes/api.ErrFuel", "internal/strconv.uint64pow10", "math/bits.deBruijn32tab", "math/bits.deBruijn64tab", "schemes/api.ErrNot", "errors.errorType"], apart := false, laid := [("math/bits.deBruijn32tab", laid_math_bits_deBruijn32tab), ("math/bits.deBruijn64tab", laid_math_bits_deBruijn64tab), ("internal/strconv.uint64pow10", laid_internal_strconv_uint64pow10), ("errors.errorType", laid_errors_errorType), ("schemes/api.ErrLong", laid_schemes_api_ErrLong), ("schemes/api.ErrDeep", laid_schemes_api_ErrDeep), ("schemes/api.ErrArg", laid_schemes_api_ErrArg), ("schemes/api.ErrType", laid_schemes_api_ErrType), ("schemes/api.ErrBig", laid_schemes_api_ErrBig), ("schemes/api.ErrFuel", laid_schemes_api_ErrFuel), ("schemes/api.ErrStopped", laid_schemes_api_ErrStopped), ("schemes/api.ErrNot", laid_schemes_api_ErrNot)] }
def ChainSaid : Prop := chainRow.holds Tryz.pinned (OpenSpec.ofChange chainSpec)

/-- ITS FALSE NEIGHBOUR: 'it returns false'. Refute it at one input. -/
def chainWrong : ChangeSpec := { name := "chain", fn := fun _ => fun
  | [d1, d2] => { results := [.lit (.bool false)], args := [d1, d2] }
  | _ => none }
def ChainWrongFalsely : Prop := chainRow.holds Tryz.pinned (OpenSpec.ofChange chainWrong)

/-- 'schemeskeep.Endless': WHATEVER THE INPUT: true; the input reads as it did. -/
def endlessSpec : ChangeSpec := { name := "endless", fn := fun _ => fun
  | [d1, d2] => { results := [.lit (.bool true)], args := [d1, d2] }
  | _ => none }
def endlessRow : OpenClaim := { program := "ytpbplpnifjbkoabgreatdoor", sum := "76dc117dab73d5096544a966e2925fc3d4565fcd5ebd452f520b20b596abd39c", func := "schemes/schemeskeep.Endless", spec := "endless", inPlace := ["internal/reflectlite.ValueOf", "(internal/reflectlite.Value).Type", "(internal/reflectlite.Value).IsNil", "internal/reflectlite.TypeOf", "(internal/reflectlite.Value).Elem", "(internal/reflectlite.Value).Set"], unfollowed := true, recurses := true, named := ["schemes/api.ErrArg", "schemes/api.ErrLong", "schemes/api.ErrDeep", "schemes/api.ErrBig", "schemes/api.ErrType", "schemes/api.ErrStopped", "schemes/api.ErrFuel", "internal/strconv.uint64pow10", "math/bits.deBruijn32tab", "math/bits.deBruijn64tab", "schemes/api.ErrNot", "errors.errorType"], apart := false, laid := [("math/bits.deBruijn32tab", laid_math_bits_deBruijn32tab), ("math/bits.deBruijn64tab", laid_math_bits_deBruijn64tab), ("internal/strconv.uint64pow10", laid_internal_strconv_uint64pow10), ("errors.errorType", laid_errors_errorType), ("schemes/api.ErrLong", laid_schemes_api_ErrLong), ("schemes/api.ErrDeep", laid_schemes_api_ErrDeep), ("schemes/api.ErrArg", laid_schemes_api_ErrArg), ("schemes/api.ErrType", laid_schemes_api_ErrType), ("schemes/api.ErrBig", laid_schemes_api_ErrBig), ("schemes/api.ErrFuel", laid_schemes_api_ErrFuel), ("schemes/api.ErrStopped", laid_schemes_api_ErrStopped), ("schemes/api.ErrNot", laid_schemes_api_ErrNot)] }
def EndlessSaid : Prop := endlessRow.holds Tryz.pinned (OpenSpec.ofChange endlessSpec)

/-- ITS FALSE NEIGHBOUR: 'it returns false'. Refute it at one input. -/
def endlessWrong : ChangeSpec := { name := "endless", fn := fun _ => fun
  | [d1, d2] => { results := [.lit (.bool false)], args := [d1, d2] }
  | _ => none }
def EndlessWrongFalsely : Prop := endlessRow.holds Tryz.pinned (OpenSpec.ofChange endlessWrong)

/-- 'schemeslaw.Watches': WHATEVER THE INPUT: true; the input reads as it did. -/
def watchesSpec : ChangeSpec := { name := "watches", fn := fun _ => fun
  | [d1, d2, d3, d4, d5] => { results := [.lit (.bool true)], args := [d1, d2, d3, d4, d5] }
  | _ => none }
def watchesRow : OpenClaim := { program := "ytpbplpnifjbkoabgreatdoor", sum := "76dc117dab73d5096544a966e2925fc3d4565fcd5ebd452f520b20b596abd39c", func := "schemes/schemeslaw.Watches", spec := "watches", inPlace := ["internal/reflectlite.ValueOf", "(internal/reflectlite.Value).Type", "(internal/reflectlite.Value).IsNil", "internal/reflectlite.TypeOf", "(internal/reflectlite.Value).Elem", "(internal/reflectlite.Value).Set"], unfollowed := true, recurses := true, named := ["schemes/api.ErrArg", "schemes/api.ErrLong", "schemes/api.ErrDeep", "schemes/api.ErrBig", "schemes/api.ErrType", "schemes/api.ErrStopped", "schemes/api.ErrFuel", "internal/strconv.uint64pow10", "math/bits.deBruijn32tab", "math/bits.deBruijn64tab", "schemes/api.ErrNot", "errors.errorType"], apart := false, laid := [("math/bits.deBruijn32tab", laid_math_bits_deBruijn32tab), ("math/bits.deBruijn64tab", laid_math_bits_deBruijn64tab), ("internal/strconv.uint64pow10", laid_internal_strconv_uint64pow10), ("errors.errorType", laid_errors_errorType), ("schemes/api.ErrLong", laid_schemes_api_ErrLong), ("schemes/api.ErrDeep", laid_schemes_api_ErrDeep), ("schemes/api.ErrArg", laid_schemes_api_ErrArg), ("schemes/api.ErrType", laid_schemes_api_ErrType), ("schemes/api.ErrBig", laid_schemes_api_ErrBig), ("schemes/api.ErrFuel", laid_schemes_api_ErrFuel), ("schemes/api.ErrStopped", laid_schemes_api_ErrStopped), ("schemes/api.ErrNot", laid_schemes_api_ErrNot)] }
def WatchesSaid : Prop := watchesRow.holds Tryz.pinned (OpenSpec.ofChange watchesSpec)

/-- ITS FALSE NEIGHBOUR: 'it returns false'. Refute it at one input. -/
def watchesWrong : ChangeSpec := { name := "watches", fn := fun _ => fun
  | [d1, d2, d3, d4, d5] => { results := [.lit (.bool false)], args := [d1, d2, d3, d4, d5] }
  | _ => none }
def WatchesWrongFalsely : Prop := watchesRow.holds Tryz.pinned (OpenSpec.ofChange watchesWrong)

/-- 'schemeskeep.Known': WHATEVER THE INPUT: true; the input reads as it did. -/
def knownSpec : ChangeSpec := { name := "known", fn := fun _ => fun
  | [d] => { results := [.lit (.bool true)], args := [d] }
  | _ => none }
def knownRow : OpenClaim := { program := "ytpbplpnifjbkoabgreatdoor", sum := "76dc117dab73d5096544a966e2925fc3d4565fcd5ebd452f520b20b596abd39c", func := "schemes/schemeskeep.Known", spec := "known", inPlace := ["internal/abi.NoEscape", "internal/bytealg.MakeNoZero", "internal/reflectlite.ValueOf", "(internal/reflectlite.Value).Type", "(internal/reflectlite.Value).IsNil", "internal/reflectlite.TypeOf", "(internal/reflectlite.Value).Elem", "(internal/reflectlite.Value).Set"], unfollowed := true, recurses := true, named := ["schemes/api.ErrLong", "schemes/api.ErrDeep", "schemes/api.ErrArg", "schemes/api.ErrType", "schemes/api.ErrBig", "schemes/api.ErrFuel", "schemes/api.ErrStopped", "schemes/api.ErrNot", "errors.errorType", "internal/strconv.uint64pow10", "math/bits.deBruijn32tab", "math/bits.deBruijn64tab"], apart := false, laid := [("math/bits.deBruijn32tab", laid_math_bits_deBruijn32tab), ("math/bits.deBruijn64tab", laid_math_bits_deBruijn64tab), ("internal/strconv.uint64pow10", laid_internal_strconv_uint64pow10), ("errors.errorType", laid_errors_errorType), ("schemes/api.ErrLong", laid_schemes_api_ErrLong), ("schemes/api.ErrDeep", laid_schemes_api_ErrDeep), ("schemes/api.ErrArg", laid_schemes_api_ErrArg), ("schemes/api.ErrType", laid_schemes_api_ErrType), ("schemes/api.ErrBig", laid_schemes_api_ErrBig), ("schemes/api.ErrFuel", laid_schemes_api_ErrFuel), ("schemes/api.ErrStopped", laid_schemes_api_ErrStopped), ("schemes/api.ErrNot", laid_schemes_api_ErrNot)] }
def KnownSaid : Prop := knownRow.holds Tryz.pinned (OpenSpec.ofChange knownSpec)

/-- ITS FALSE NEIGHBOUR: 'it returns false'. Refute it at one input. -/
def knownWrong : ChangeSpec := { name := "known", fn := fun _ => fun
  | [d] => { results := [.lit (.bool false)], args := [d] }
  | _ => none }
def KnownWrongFalsely : Prop := knownRow.holds Tryz.pinned (OpenSpec.ofChange knownWrong)

/-- 'schemeskeep.Same': WHATEVER THE INPUT: true; the input reads as it did. -/
def sameSpec : ChangeSpec := { name := "same", fn := fun _ => fun
  | [d] => { results := [.lit (.bool true)], args := [d] }
  | _ => none }
def sameRow : OpenClaim := { program := "ytpbplpnifjbkoabgreatdoor", sum := "76dc117dab73d5096544a966e2925fc3d4565fcd5ebd452f520b20b596abd39c", func := "schemes/schemeskeep.Same", spec := "same", inPlace := ["internal/reflectlite.ValueOf", "(internal/reflectlite.Value).Type", "(internal/reflectlite.Value).IsNil", "internal/reflectlite.TypeOf", "(internal/reflectlite.Value).Elem", "(internal/reflectlite.Value).Set", "internal/abi.NoEscape", "internal/bytealg.MakeNoZero"], unfollowed := true, recurses := true, named := ["schemes/api.ErrArg", "schemes/api.ErrLong", "schemes/api.ErrDeep", "schemes/api.ErrBig", "schemes/api.ErrType", "schemes/api.ErrStopped", "schemes/api.ErrFuel", "internal/strconv.uint64pow10", "math/bits.deBruijn32tab", "math/bits.deBruijn64tab", "schemes/api.ErrNot", "errors.errorType"], apart := false, laid := [("math/bits.deBruijn32tab", laid_math_bits_deBruijn32tab), ("math/bits.deBruijn64tab", laid_math_bits_deBruijn64tab), ("internal/strconv.uint64pow10", laid_internal_strconv_uint64pow10), ("errors.errorType", laid_errors_errorType), ("schemes/api.ErrLong", laid_schemes_api_ErrLong), ("schemes/api.ErrDeep", laid_schemes_api_ErrDeep), ("schemes/api.ErrArg", laid_schemes_api_ErrArg), ("schemes/api.ErrType", laid_schemes_api_ErrType), ("schemes/api.ErrBig", laid_schemes_api_ErrBig), ("schemes/api.ErrFuel", laid_schemes_api_ErrFuel), ("schemes/api.ErrStopped", laid_schemes_api_ErrStopped), ("schemes/api.ErrNot", laid_schemes_api_ErrNot)] }
def SameSaid : Prop := sameRow.holds Tryz.pinned (OpenSpec.ofChange sameSpec)

/-- ITS FALSE NEIGHBOUR: 'it returns false'. Refute it at one input. -/
def sameWrong : ChangeSpec := { name := "same", fn := fun _ => fun
  | [d] => { results := [.lit (.bool false)], args := [d] }
  | _ => none }
def SameWrongFalsely : Prop := sameRow.holds Tryz.pinned (OpenSpec.ofChange sameWrong)

/- THE SECOND FORM. 'bulk': how many values and letters a reading holds, each counted each time it is reached (what is shared counts as often as it is met; a slice's spare places count too). A statement '..UptoSaid' is the law's where the arguments, and the package variables that the reading takes, are together of bulk at most 1048576: NARROWER than '..Said'. Prove '..Said' where nothing that the law and all that it calls make is longer than what came in: it says more and counts as full. Else prove '..UptoSaid'. A law counts once. -/
mutual
def uptoBulk {H : Type} : DataW H → Nat
  | .lit (.string bytes) => bytes.length + 1
  | .lit _ => 1
  | .nil => 1
  | .ptr d => uptoBulk d + 1
  | .slice elems spare => uptoBulkAll elems + uptoBulkAll spare + 1
  | .agg parts => uptoBulkAll parts + 1
  | .iface _ d => uptoBulk d + 1
  | .map entries => uptoBulkEntries entries + 1
  | .held _ => 1
def uptoBulkAll {H : Type} : List (DataW H) → Nat
  | [] => 0
  | d :: r => uptoBulk d + uptoBulkAll r
def uptoBulkEntries {H : Type} : List (Lit × DataW H) → Nat
  | [] => 0
  | x :: r => uptoBulkEntry x + uptoBulkEntries r
def uptoBulkEntry {H : Type} : Lit × DataW H → Nat
  | (.string bytes, d) => bytes.length + uptoBulk d + 1
  | (_, d) => uptoBulk d + 1
 end
def uptoSmall : (H : Type) → List (DataW H) → Bool := fun _ ds => decide (uptoBulkAll ds ≤ 1048576)
def OpenSpec.upto (s : _root_.Go.ChangeSpec) : _root_.Go.OpenSpec := { _root_.Go.OpenSpec.ofChange s with cond := some uptoSmall }

/-- 'schemeskeep.Chain', WHERE WHAT IT READS IS OF BULK AT MOST 1048576: true; the input reads as it did. -/
def chainUptoRow : OpenClaim := { program := "ytpbplpnifjbkoabgreatdoor", sum := "76dc117dab73d5096544a966e2925fc3d4565fcd5ebd452f520b20b596abd39c", func := "schemes/schemeskeep.Chain", spec := "chain", inPlace := ["internal/reflectlite.ValueOf", "(internal/reflectlite.Value).Type", "(internal/reflectlite.Value).IsNil", "internal/reflectlite.TypeOf", "(internal/reflectlite.Value).Elem", "(internal/reflectlite.Value).Set"], unfollowed := true, recurses := true, named := ["schemes/api.ErrArg", "schemes/api.ErrLong", "schemes/api.ErrDeep", "schemes/api.ErrBig", "schemes/api.ErrType", "schemes/api.ErrStopped", "schemes/api.ErrFuel", "internal/strconv.uint64pow10", "math/bits.deBruijn32tab", "math/bits.deBruijn64tab", "schemes/api.ErrNot", "errors.errorType"], apart := false, laid := [("math/bits.deBruijn32tab", laid_math_bits_deBruijn32tab), ("math/bits.deBruijn64tab", laid_math_bits_deBruijn64tab), ("internal/strconv.uint64pow10", laid_internal_strconv_uint64pow10), ("errors.errorType", laid_errors_errorType), ("schemes/api.ErrLong", laid_schemes_api_ErrLong), ("schemes/api.ErrDeep", laid_schemes_api_ErrDeep), ("schemes/api.ErrArg", laid_schemes_api_ErrArg), ("schemes/api.ErrType", laid_schemes_api_ErrType), ("schemes/api.ErrBig", laid_schemes_api_ErrBig), ("schemes/api.ErrFuel", laid_schemes_api_ErrFuel), ("schemes/api.ErrStopped", laid_schemes_api_ErrStopped), ("schemes/api.ErrNot", laid_schemes_api_ErrNot)], narrowed := true }
def ChainUptoSaid : Prop := chainUptoRow.holds Tryz.pinned (OpenSpec.upto chainSpec)

/-- 'schemeskeep.Endless', WHERE WHAT IT READS IS OF BULK AT MOST 1048576: true; the input reads as it did. -/
def endlessUptoRow : OpenClaim := { program := "ytpbplpnifjbkoabgreatdoor", sum := "76dc117dab73d5096544a966e2925fc3d4565fcd5ebd452f520b20b596abd39c", func := "schemes/schemeskeep.Endless", spec := "endless", inPlace := ["internal/reflectlite.ValueOf", "(internal/reflectlite.Value).Type", "(internal/reflectlite.Value).IsNil", "internal/reflectlite.TypeOf", "(internal/reflectlite.Value).Elem", "(internal/reflectlite.Value).Set"], unfollowed := true, recurses := true, named := ["schemes/api.ErrArg", "schemes/api.ErrLong", "schemes/api.ErrDeep", "schemes/api.ErrBig", "schemes/api.ErrType", "schemes/api.ErrStopped", "schemes/api.ErrFuel", "internal/strconv.uint64pow10", "math/bits.deBruijn32tab", "math/bits.deBruijn64tab", "schemes/api.ErrNot", "errors.errorType"], apart := false, laid := [("math/bits.deBruijn32tab", laid_math_bits_deBruijn32tab), ("math/bits.deBruijn64tab", laid_math_bits_deBruijn64tab), ("internal/strconv.uint64pow10", laid_internal_strconv_uint64pow10), ("errors.errorType", laid_errors_errorType), ("schemes/api.ErrLong", laid_schemes_api_ErrLong), ("schemes/api.ErrDeep", laid_schemes_api_ErrDeep), ("schemes/api.ErrArg", laid_schemes_api_ErrArg), ("schemes/api.ErrType", laid_schemes_api_ErrType), ("schemes/api.ErrBig", laid_schemes_api_ErrBig), ("schemes/api.ErrFuel", laid_schemes_api_ErrFuel), ("schemes/api.ErrStopped", laid_schemes_api_ErrStopped), ("schemes/api.ErrNot", laid_schemes_api_ErrNot)], narrowed := true }
def EndlessUptoSaid : Prop := endlessUptoRow.holds Tryz.pinned (OpenSpec.upto endlessSpec)

/-- 'schemeslaw.Watches', WHERE WHAT IT READS IS OF BULK AT MOST 1048576: true; the input reads as it did. -/
def watchesUptoRow : OpenClaim := { program := "ytpbplpnifjbkoabgreatdoor", sum := "76dc117dab73d5096544a966e2925fc3d4565fcd5ebd452f520b20b596abd39c", func := "schemes/schemeslaw.Watches", spec := "watches", inPlace := ["internal/reflectlite.ValueOf", "(internal/reflectlite.Value).Type", "(internal/reflectlite.Value).IsNil", "internal/reflectlite.TypeOf", "(internal/reflectlite.Value).Elem", "(internal/reflectlite.Value).Set"], unfollowed := true, recurses := true, named := ["schemes/api.ErrArg", "schemes/api.ErrLong", "schemes/api.ErrDeep", "schemes/api.ErrBig", "schemes/api.ErrType", "schemes/api.ErrStopped", "schemes/api.ErrFuel", "internal/strconv.uint64pow10", "math/bits.deBruijn32tab", "math/bits.deBruijn64tab", "schemes/api.ErrNot", "errors.errorType"], apart := false, laid := [("math/bits.deBruijn32tab", laid_math_bits_deBruijn32tab), ("math/bits.deBruijn64tab", laid_math_bits_deBruijn64tab), ("internal/strconv.uint64pow10", laid_internal_strconv_uint64pow10), ("errors.errorType", laid_errors_errorType), ("schemes/api.ErrLong", laid_schemes_api_ErrLong), ("schemes/api.ErrDeep", laid_schemes_api_ErrDeep), ("schemes/api.ErrArg", laid_schemes_api_ErrArg), ("schemes/api.ErrType", laid_schemes_api_ErrType), ("schemes/api.ErrBig", laid_schemes_api_ErrBig), ("schemes/api.ErrFuel", laid_schemes_api_ErrFuel), ("schemes/api.ErrStopped", laid_schemes_api_ErrStopped), ("schemes/api.ErrNot", laid_schemes_api_ErrNot)], narrowed := true }
def WatchesUptoSaid : Prop := watchesUptoRow.holds Tryz.pinned (OpenSpec.upto watchesSpec)

/-- 'schemeskeep.Known', WHERE WHAT IT READS IS OF BULK AT MOST 1048576: true; the input reads as it did. -/
def knownUptoRow : OpenClaim := { program := "ytpbplpnifjbkoabgreatdoor", sum := "76dc117dab73d5096544a966e2925fc3d4565fcd5ebd452f520b20b596abd39c", func := "schemes/schemeskeep.Known", spec := "known", inPlace := ["internal/abi.NoEscape", "internal/bytealg.MakeNoZero", "internal/reflectlite.ValueOf", "(internal/reflectlite.Value).Type", "(internal/reflectlite.Value).IsNil", "internal/reflectlite.TypeOf", "(internal/reflectlite.Value).Elem", "(internal/reflectlite.Value).Set"], unfollowed := true, recurses := true, named := ["schemes/api.ErrLong", "schemes/api.ErrDeep", "schemes/api.ErrArg", "schemes/api.ErrType", "schemes/api.ErrBig", "schemes/api.ErrFuel", "schemes/api.ErrStopped", "schemes/api.ErrNot", "errors.errorType", "internal/strconv.uint64pow10", "math/bits.deBruijn32tab", "math/bits.deBruijn64tab"], apart := false, laid := [("math/bits.deBruijn32tab", laid_math_bits_deBruijn32tab), ("math/bits.deBruijn64tab", laid_math_bits_deBruijn64tab), ("internal/strconv.uint64pow10", laid_internal_strconv_uint64pow10), ("errors.errorType", laid_errors_errorType), ("schemes/api.ErrLong", laid_schemes_api_ErrLong), ("schemes/api.ErrDeep", laid_schemes_api_ErrDeep), ("schemes/api.ErrArg", laid_schemes_api_ErrArg), ("schemes/api.ErrType", laid_schemes_api_ErrType), ("schemes/api.ErrBig", laid_schemes_api_ErrBig), ("schemes/api.ErrFuel", laid_schemes_api_ErrFuel), ("schemes/api.ErrStopped", laid_schemes_api_ErrStopped), ("schemes/api.ErrNot", laid_schemes_api_ErrNot)], narrowed := true }
def KnownUptoSaid : Prop := knownUptoRow.holds Tryz.pinned (OpenSpec.upto knownSpec)

/-- 'schemeskeep.Same', WHERE WHAT IT READS IS OF BULK AT MOST 1048576: true; the input reads as it did. -/
def sameUptoRow : OpenClaim := { program := "ytpbplpnifjbkoabgreatdoor", sum := "76dc117dab73d5096544a966e2925fc3d4565fcd5ebd452f520b20b596abd39c", func := "schemes/schemeskeep.Same", spec := "same", inPlace := ["internal/reflectlite.ValueOf", "(internal/reflectlite.Value).Type", "(internal/reflectlite.Value).IsNil", "internal/reflectlite.TypeOf", "(internal/reflectlite.Value).Elem", "(internal/reflectlite.Value).Set", "internal/abi.NoEscape", "internal/bytealg.MakeNoZero"], unfollowed := true, recurses := true, named := ["schemes/api.ErrArg", "schemes/api.ErrLong", "schemes/api.ErrDeep", "schemes/api.ErrBig", "schemes/api.ErrType", "schemes/api.ErrStopped", "schemes/api.ErrFuel", "internal/strconv.uint64pow10", "math/bits.deBruijn32tab", "math/bits.deBruijn64tab", "schemes/api.ErrNot", "errors.errorType"], apart := false, laid := [("math/bits.deBruijn32tab", laid_math_bits_deBruijn32tab), ("math/bits.deBruijn64tab", laid_math_bits_deBruijn64tab), ("internal/strconv.uint64pow10", laid_internal_strconv_uint64pow10), ("errors.errorType", laid_errors_errorType), ("schemes/api.ErrLong", laid_schemes_api_ErrLong), ("schemes/api.ErrDeep", laid_schemes_api_ErrDeep), ("schemes/api.ErrArg", laid_schemes_api_ErrArg), ("schemes/api.ErrType", laid_schemes_api_ErrType), ("schemes/api.ErrBig", laid_schemes_api_ErrBig), ("schemes/api.ErrFuel", laid_schemes_api_ErrFuel), ("schemes/api.ErrStopped", laid_schemes_api_ErrStopped), ("schemes/api.ErrNot", laid_schemes_api_ErrNot)], narrowed := true }
def SameUptoSaid : Prop := sameUptoRow.holds Tryz.pinned (OpenSpec.upto sameSpec)

end Rows
end Go.Proofs.YtpbplpnifjbkoabGreatDoor

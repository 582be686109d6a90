/-
  NARROWER THAN 'FOR EVERY INPUT', by the rows' own cells (each row's printed sentence says how): FaultTells: laid · FaultStays: laid · FaultNone: laid · ObsTells: loops, laid · ObsSeals: loops, laid · TyfmtShows: loops, laid · TyfmtOne: loops, laid · TyfmtLists: loops, laid.
  DERIVED. THE GIVEN ROWS OF THIS SEAT. 8 by the template 'for every input the law returns true; each argument reads behind the call as it read before'; 0 by the template 'total and deterministic' (their statements: YtedgebnmllinlaaDoorTotals.lean).
  GIVEN WITH THE SEED: the statements are not yours to turn. If you find one false, say at which input.
  Laid BY PROGRAM, IN A SANDBOX (cutbox-rows.mjs): the forced cells as the released guide's own fill.sh prints them over the translation 2137b16528beaaec… (all of the seat's roots in one cut). By AI agents, Wed Nov 11 2026. No macro, syntax, notation, axiom, sorry.
-/
import Derived.Test.YtedgebnmllinlaaDoorChecked
import GoSem.Claim
import GoSem.ClaimJoined
import GoSem.ClaimMapViews
import Derived.JoinedTies
import Derived.KernelRfl
namespace Go.Proofs.YtedgebnmllinlaaDoor
/- THE CELL 'sum', in the pinned program and in every row, IS THE sha256 OF THE DUMP (.gsa) THAT YtedgebnmllinlaaDoorProg.lean LOADS. Nothing in Lean hashes anything: it is a label: what it is worth is what the hold of that sum in a sandbox is worth. -/
noncomputable def Tryd.pinned : Pinned := { name := "ytedgebnmllinlaadoor", sum := "2137b16528beaaec09c345cd7498a20d206a7b3e5b3e65d4ff4a1ad4645b7f0b", checked := Tryd.checked }
namespace Rows
def none {H : Type} : Left H := { results := [], args := [] }

/- WHAT THE LISTED PACKAGE-LEVEL VARIABLES READ AS WHEN THE CALL BEGINS. Each datum BY PROGRAM (the guide's laid-datum.mjs) off the statement by which the dump's own 'gosem.cut.vars' lays the variable. In a bare row this is a premise. The card (YtedgebnmllinlaaDoorCards.lean) ties it to the program's text. -/
def laid_errors_errorType {H : Type} : DataW H := .iface "internal/reflectlite.rtype" (.agg [.ptr (.lit (.string [101, 114, 114, 111, 114]))])
def laid_math_bits_deBruijn32tab {H : Type} : DataW H := .agg [.lit (.int .u8 0), .lit (.int .u8 1), .lit (.int .u8 28), .lit (.int .u8 2), .lit (.int .u8 29), .lit (.int .u8 14), .lit (.int .u8 24), .lit (.int .u8 3), .lit (.int .u8 30), .lit (.int .u8 22), .lit (.int .u8 20), .lit (.int .u8 15), .lit (.int .u8 25), .lit (.int .u8 17), .lit (.int .u8 4), .lit (.int .u8 8), .lit (.int .u8 31), .lit (.int .u8 27), .lit (.int .u8 13), .lit (.int .u8 23), .lit (.int .u8 21), .lit (.int .u8 19), .lit (.int .u8 16), .lit (.int .u8 7), .lit (.int .u8 26), .lit (.int .u8 12), .lit (.int .u8 18), .lit (.int .u8 6), .lit (.int .u8 11), .lit (.int .u8 5), .lit (.int .u8 10), .lit (.int .u8 9)]
def laid_math_bits_deBruijn64tab {H : Type} : DataW H := .agg [.lit (.int .u8 0), .lit (.int .u8 1), .lit (.int .u8 56), .lit (.int .u8 2), .lit (.int .u8 57), .lit (.int .u8 49), .lit (.int .u8 28), .lit (.int .u8 3), .lit (.int .u8 61), .lit (.int .u8 58), .lit (.int .u8 42), .lit (.int .u8 50), .lit (.int .u8 38), .lit (.int .u8 29), .lit (.int .u8 17), .lit (.int .u8 4), .lit (.int .u8 62), .lit (.int .u8 47), .lit (.int .u8 59), .lit (.int .u8 36), .lit (.int .u8 45), .lit (.int .u8 43), .lit (.int .u8 51), .lit (.int .u8 22), .lit (.int .u8 53), .lit (.int .u8 39), .lit (.int .u8 33), .lit (.int .u8 30), .lit (.int .u8 24), .lit (.int .u8 18), .lit (.int .u8 12), .lit (.int .u8 5), .lit (.int .u8 63), .lit (.int .u8 55), .lit (.int .u8 48), .lit (.int .u8 27), .lit (.int .u8 60), .lit (.int .u8 41), .lit (.int .u8 37), .lit (.int .u8 16), .lit (.int .u8 46), .lit (.int .u8 35), .lit (.int .u8 44), .lit (.int .u8 21), .lit (.int .u8 52), .lit (.int .u8 32), .lit (.int .u8 23), .lit (.int .u8 11), .lit (.int .u8 54), .lit (.int .u8 26), .lit (.int .u8 40), .lit (.int .u8 15), .lit (.int .u8 34), .lit (.int .u8 20), .lit (.int .u8 31), .lit (.int .u8 10), .lit (.int .u8 25), .lit (.int .u8 14), .lit (.int .u8 19), .lit (.int .u8 9), .lit (.int .u8 13), .lit (.int .u8 8), .lit (.int .u8 7), .lit (.int .u8 6)]
def laid_internal_strconv_uint64pow10 {H : Type} : DataW H := .agg [.lit (.int .u64 1), .lit (.int .u64 10), .lit (.int .u64 100), .lit (.int .u64 1000), .lit (.int .u64 10000), .lit (.int .u64 100000), .lit (.int .u64 1000000), .lit (.int .u64 10000000), .lit (.int .u64 100000000), .lit (.int .u64 1000000000), .lit (.int .u64 10000000000), .lit (.int .u64 100000000000), .lit (.int .u64 1000000000000), .lit (.int .u64 10000000000000), .lit (.int .u64 100000000000000), .lit (.int .u64 1000000000000000), .lit (.int .u64 10000000000000000), .lit (.int .u64 100000000000000000), .lit (.int .u64 1000000000000000000), .lit (.int .u64 10000000000000000000)]
def laid_limbeck_obs_seen {H : Type} : DataW H := .agg [.lit (.int .i64 0), .lit (.int .i64 1), .lit (.int .i64 2), .lit (.int .i64 3), .lit (.int .i64 5), .lit (.int .i64 4), .lit (.int .i64 4), .lit (.int .i64 4), .lit (.int .i64 0)]

/-- 'limbecklaw02.FaultTells': WHATEVER THE INPUT: true; the input reads as it did. -/
def faultTellsSpec : ChangeSpec := { name := "faultTells", fn := fun _ => fun
  | [d1, d2, d3, d4, d5] => { results := [.lit (.bool true)], args := [d1, d2, d3, d4, d5] }
  | _ => none }
def faultTellsRow : OpenClaim := { program := "ytedgebnmllinlaadoor", sum := "2137b16528beaaec09c345cd7498a20d206a7b3e5b3e65d4ff4a1ad4645b7f0b", func := "limbeck/limbecklaw02.FaultTells", spec := "faultTells", inPlace := ["internal/reflectlite.ValueOf", "(internal/reflectlite.Value).Type", "(internal/reflectlite.Value).IsNil", "internal/reflectlite.TypeOf", "(internal/reflectlite.Value).Elem", "(internal/reflectlite.Value).Set"], unfollowed := true, recurses := true, named := ["errors.errorType"], apart := false, laid := [("errors.errorType", laid_errors_errorType)] }
def FaultTellsSaid : Prop := faultTellsRow.holds Tryd.pinned (OpenSpec.ofChange faultTellsSpec)

/-- ITS FALSE NEIGHBOUR: 'it returns false'. Refute it at one input. -/
def faultTellsWrong : ChangeSpec := { name := "faultTells", fn := fun _ => fun
  | [d1, d2, d3, d4, d5] => { results := [.lit (.bool false)], args := [d1, d2, d3, d4, d5] }
  | _ => none }
def FaultTellsWrongFalsely : Prop := faultTellsRow.holds Tryd.pinned (OpenSpec.ofChange faultTellsWrong)

/-- 'limbecklaw02.FaultStays': WHATEVER THE INPUT: true; the input reads as it did. -/
def faultStaysSpec : ChangeSpec := { name := "faultStays", fn := fun _ => fun
  | [d1, d2, d3] => { results := [.lit (.bool true)], args := [d1, d2, d3] }
  | _ => none }
def faultStaysRow : OpenClaim := { program := "ytedgebnmllinlaadoor", sum := "2137b16528beaaec09c345cd7498a20d206a7b3e5b3e65d4ff4a1ad4645b7f0b", func := "limbeck/limbecklaw02.FaultStays", spec := "faultStays", inPlace := ["internal/reflectlite.ValueOf", "(internal/reflectlite.Value).Type", "(internal/reflectlite.Value).IsNil", "internal/reflectlite.TypeOf", "(internal/reflectlite.Value).Elem", "(internal/reflectlite.Value).Set"], unfollowed := true, recurses := true, named := ["errors.errorType"], apart := false, laid := [("errors.errorType", laid_errors_errorType)] }
def FaultStaysSaid : Prop := faultStaysRow.holds Tryd.pinned (OpenSpec.ofChange faultStaysSpec)

/-- ITS FALSE NEIGHBOUR: 'it returns false'. Refute it at one input. -/
def faultStaysWrong : ChangeSpec := { name := "faultStays", fn := fun _ => fun
  | [d1, d2, d3] => { results := [.lit (.bool false)], args := [d1, d2, d3] }
  | _ => none }
def FaultStaysWrongFalsely : Prop := faultStaysRow.holds Tryd.pinned (OpenSpec.ofChange faultStaysWrong)

/-- 'limbecklaw02.FaultNone': WHATEVER THE INPUT: true; the input reads as it did. -/
def faultNoneSpec : ChangeSpec := { name := "faultNone", fn := fun _ => fun
  | [d1, d2] => { results := [.lit (.bool true)], args := [d1, d2] }
  | _ => none }
def faultNoneRow : OpenClaim := { program := "ytedgebnmllinlaadoor", sum := "2137b16528beaaec09c345cd7498a20d206a7b3e5b3e65d4ff4a1ad4645b7f0b", func := "limbeck/limbecklaw02.FaultNone", spec := "faultNone", inPlace := ["internal/reflectlite.ValueOf", "(internal/reflectlite.Value).Type", "(internal/reflectlite.Value).IsNil", "internal/reflectlite.TypeOf", "(internal/reflectlite.Value).Elem", "(internal/reflectlite.Value).Set"], unfollowed := true, recurses := true, named := ["errors.errorType"], apart := false, laid := [("errors.errorType", laid_errors_errorType)] }
def FaultNoneSaid : Prop := faultNoneRow.holds Tryd.pinned (OpenSpec.ofChange faultNoneSpec)

/-- ITS FALSE NEIGHBOUR: 'it returns false'. Refute it at one input. -/
def faultNoneWrong : ChangeSpec := { name := "faultNone", fn := fun _ => fun
  | [d1, d2] => { results := [.lit (.bool false)], args := [d1, d2] }
  | _ => none }
def FaultNoneWrongFalsely : Prop := faultNoneRow.holds Tryd.pinned (OpenSpec.ofChange faultNoneWrong)

/-- 'limbecklaw33.ObsTells': WHATEVER THE INPUT: true; the input reads as it did. -/
def obsTellsSpec : ChangeSpec := { name := "obsTells", fn := fun _ => fun
  | [d1, d2, d3] => { results := [.lit (.bool true)], args := [d1, d2, d3] }
  | _ => none }
def obsTellsRow : OpenClaim := { program := "ytedgebnmllinlaadoor", sum := "2137b16528beaaec09c345cd7498a20d206a7b3e5b3e65d4ff4a1ad4645b7f0b", func := "limbeck/limbecklaw33.ObsTells", spec := "obsTells", inPlace := ["internal/abi.NoEscape"], recurses := true, named := ["limbeck/obs.seen", "internal/strconv.uint64pow10", "math/bits.deBruijn32tab", "math/bits.deBruijn64tab"], loops := true, apart := false, laid := [("math/bits.deBruijn32tab", laid_math_bits_deBruijn32tab), ("math/bits.deBruijn64tab", laid_math_bits_deBruijn64tab), ("internal/strconv.uint64pow10", laid_internal_strconv_uint64pow10), ("limbeck/obs.seen", laid_limbeck_obs_seen)] }
def ObsTellsSaid : Prop := obsTellsRow.holds Tryd.pinned (OpenSpec.ofChange obsTellsSpec)

/-- ITS FALSE NEIGHBOUR: 'it returns false'. Refute it at one input. -/
def obsTellsWrong : ChangeSpec := { name := "obsTells", fn := fun _ => fun
  | [d1, d2, d3] => { results := [.lit (.bool false)], args := [d1, d2, d3] }
  | _ => none }
def ObsTellsWrongFalsely : Prop := obsTellsRow.holds Tryd.pinned (OpenSpec.ofChange obsTellsWrong)

/-- 'limbecklaw33.ObsSeals': WHATEVER THE INPUT: true; the input reads as it did. -/
def obsSealsSpec : ChangeSpec := { name := "obsSeals", fn := fun _ => fun
  | [d1, d2] => { results := [.lit (.bool true)], args := [d1, d2] }
  | _ => none }
def obsSealsRow : OpenClaim := { program := "ytedgebnmllinlaadoor", sum := "2137b16528beaaec09c345cd7498a20d206a7b3e5b3e65d4ff4a1ad4645b7f0b", func := "limbeck/limbecklaw33.ObsSeals", spec := "obsSeals", inPlace := ["internal/abi.NoEscape"], recurses := true, named := ["limbeck/obs.seen", "internal/strconv.uint64pow10", "math/bits.deBruijn32tab", "math/bits.deBruijn64tab"], loops := true, apart := false, laid := [("math/bits.deBruijn32tab", laid_math_bits_deBruijn32tab), ("math/bits.deBruijn64tab", laid_math_bits_deBruijn64tab), ("internal/strconv.uint64pow10", laid_internal_strconv_uint64pow10), ("limbeck/obs.seen", laid_limbeck_obs_seen)] }
def ObsSealsSaid : Prop := obsSealsRow.holds Tryd.pinned (OpenSpec.ofChange obsSealsSpec)

/-- ITS FALSE NEIGHBOUR: 'it returns false'. Refute it at one input. -/
def obsSealsWrong : ChangeSpec := { name := "obsSeals", fn := fun _ => fun
  | [d1, d2] => { results := [.lit (.bool false)], args := [d1, d2] }
  | _ => none }
def ObsSealsWrongFalsely : Prop := obsSealsRow.holds Tryd.pinned (OpenSpec.ofChange obsSealsWrong)

/-- 'limbecklaw05.TyfmtShows': WHATEVER THE INPUT: true; the input reads as it did. -/
def tyfmtShowsSpec : ChangeSpec := { name := "tyfmtShows", fn := fun _ => fun
  | [d] => { results := [.lit (.bool true)], args := [d] }
  | _ => none }
def tyfmtShowsRow : OpenClaim := { program := "ytedgebnmllinlaadoor", sum := "2137b16528beaaec09c345cd7498a20d206a7b3e5b3e65d4ff4a1ad4645b7f0b", func := "limbeck/limbecklaw05.TyfmtShows", spec := "tyfmtShows", inPlace := ["internal/abi.NoEscape"], unfollowed := true, recurses := true, named := ["internal/strconv.uint64pow10", "math/bits.deBruijn32tab", "math/bits.deBruijn64tab"], loops := true, apart := false, laid := [("math/bits.deBruijn32tab", laid_math_bits_deBruijn32tab), ("math/bits.deBruijn64tab", laid_math_bits_deBruijn64tab), ("internal/strconv.uint64pow10", laid_internal_strconv_uint64pow10)] }
def TyfmtShowsSaid : Prop := tyfmtShowsRow.holds Tryd.pinned (OpenSpec.ofChange tyfmtShowsSpec)

/-- ITS FALSE NEIGHBOUR: 'it returns false'. Refute it at one input. -/
def tyfmtShowsWrong : ChangeSpec := { name := "tyfmtShows", fn := fun _ => fun
  | [d] => { results := [.lit (.bool false)], args := [d] }
  | _ => none }
def TyfmtShowsWrongFalsely : Prop := tyfmtShowsRow.holds Tryd.pinned (OpenSpec.ofChange tyfmtShowsWrong)

/-- 'limbecklaw05.TyfmtOne': WHATEVER THE INPUT: true; the input reads as it did. -/
def tyfmtOneSpec : ChangeSpec := { name := "tyfmtOne", fn := fun _ => fun
  | [d1, d2] => { results := [.lit (.bool true)], args := [d1, d2] }
  | _ => none }
def tyfmtOneRow : OpenClaim := { program := "ytedgebnmllinlaadoor", sum := "2137b16528beaaec09c345cd7498a20d206a7b3e5b3e65d4ff4a1ad4645b7f0b", func := "limbeck/limbecklaw05.TyfmtOne", spec := "tyfmtOne", inPlace := ["internal/abi.NoEscape"], unfollowed := true, recurses := true, named := ["internal/strconv.uint64pow10", "math/bits.deBruijn32tab", "math/bits.deBruijn64tab"], loops := true, apart := false, laid := [("math/bits.deBruijn32tab", laid_math_bits_deBruijn32tab), ("math/bits.deBruijn64tab", laid_math_bits_deBruijn64tab), ("internal/strconv.uint64pow10", laid_internal_strconv_uint64pow10)] }
def TyfmtOneSaid : Prop := tyfmtOneRow.holds Tryd.pinned (OpenSpec.ofChange tyfmtOneSpec)

/-- ITS FALSE NEIGHBOUR: 'it returns false'. Refute it at one input. -/
def tyfmtOneWrong : ChangeSpec := { name := "tyfmtOne", fn := fun _ => fun
  | [d1, d2] => { results := [.lit (.bool false)], args := [d1, d2] }
  | _ => none }
def TyfmtOneWrongFalsely : Prop := tyfmtOneRow.holds Tryd.pinned (OpenSpec.ofChange tyfmtOneWrong)

/-- 'limbecklaw05.TyfmtLists': WHATEVER THE INPUT: true; the input reads as it did. -/
def tyfmtListsSpec : ChangeSpec := { name := "tyfmtLists", fn := fun _ => fun
  | [d1, d2] => { results := [.lit (.bool true)], args := [d1, d2] }
  | _ => none }
def tyfmtListsRow : OpenClaim := { program := "ytedgebnmllinlaadoor", sum := "2137b16528beaaec09c345cd7498a20d206a7b3e5b3e65d4ff4a1ad4645b7f0b", func := "limbeck/limbecklaw05.TyfmtLists", spec := "tyfmtLists", inPlace := ["internal/abi.NoEscape"], unfollowed := true, recurses := true, named := ["internal/strconv.uint64pow10", "math/bits.deBruijn32tab", "math/bits.deBruijn64tab"], loops := true, apart := false, laid := [("math/bits.deBruijn32tab", laid_math_bits_deBruijn32tab), ("math/bits.deBruijn64tab", laid_math_bits_deBruijn64tab), ("internal/strconv.uint64pow10", laid_internal_strconv_uint64pow10)] }
def TyfmtListsSaid : Prop := tyfmtListsRow.holds Tryd.pinned (OpenSpec.ofChange tyfmtListsSpec)

/-- ITS FALSE NEIGHBOUR: 'it returns false'. Refute it at one input. -/
def tyfmtListsWrong : ChangeSpec := { name := "tyfmtLists", fn := fun _ => fun
  | [d1, d2] => { results := [.lit (.bool false)], args := [d1, d2] }
  | _ => none }
def TyfmtListsWrongFalsely : Prop := tyfmtListsRow.holds Tryd.pinned (OpenSpec.ofChange tyfmtListsWrong)

/- THE SECOND FORM. 'bulk': how many values and letters a reading holds, each counted each time it is reached (what is shared counts as often as it is met; a slice's spare places count too). A statement '..UptoSaid' is the law's where the arguments, and the package variables that the reading takes, are together of bulk at most 1048576: NARROWER than '..Said'. Prove '..Said' where nothing that the law and all that it calls make is longer than what came in: it says more and counts as full. Else prove '..UptoSaid'. A law counts once. -/
mutual
def uptoBulk {H : Type} : DataW H → Nat
  | .lit (.string bytes) => bytes.length + 1
  | .lit _ => 1
  | .nil => 1
  | .ptr d => uptoBulk d + 1
  | .slice elems spare => uptoBulkAll elems + uptoBulkAll spare + 1
  | .agg parts => uptoBulkAll parts + 1
  | .iface _ d => uptoBulk d + 1
  | .map entries => uptoBulkEntries entries + 1
  | .held _ => 1
def uptoBulkAll {H : Type} : List (DataW H) → Nat
  | [] => 0
  | d :: r => uptoBulk d + uptoBulkAll r
def uptoBulkEntries {H : Type} : List (Lit × DataW H) → Nat
  | [] => 0
  | x :: r => uptoBulkEntry x + uptoBulkEntries r
def uptoBulkEntry {H : Type} : Lit × DataW H → Nat
  | (.string bytes, d) => bytes.length + uptoBulk d + 1
  | (_, d) => uptoBulk d + 1
 end
def uptoSmall : (H : Type) → List (DataW H) → Bool := fun _ ds => decide (uptoBulkAll ds ≤ 1048576)
def OpenSpec.upto (s : _root_.Go.ChangeSpec) : _root_.Go.OpenSpec := { _root_.Go.OpenSpec.ofChange s with cond := some uptoSmall }

/-- 'limbecklaw02.FaultTells', WHERE WHAT IT READS IS OF BULK AT MOST 1048576: true; the input reads as it did. -/
def faultTellsUptoRow : OpenClaim := { program := "ytedgebnmllinlaadoor", sum := "2137b16528beaaec09c345cd7498a20d206a7b3e5b3e65d4ff4a1ad4645b7f0b", func := "limbeck/limbecklaw02.FaultTells", spec := "faultTells", inPlace := ["internal/reflectlite.ValueOf", "(internal/reflectlite.Value).Type", "(internal/reflectlite.Value).IsNil", "internal/reflectlite.TypeOf", "(internal/reflectlite.Value).Elem", "(internal/reflectlite.Value).Set"], unfollowed := true, recurses := true, named := ["errors.errorType"], apart := false, laid := [("errors.errorType", laid_errors_errorType)], narrowed := true }
def FaultTellsUptoSaid : Prop := faultTellsUptoRow.holds Tryd.pinned (OpenSpec.upto faultTellsSpec)

/-- 'limbecklaw02.FaultStays', WHERE WHAT IT READS IS OF BULK AT MOST 1048576: true; the input reads as it did. -/
def faultStaysUptoRow : OpenClaim := { program := "ytedgebnmllinlaadoor", sum := "2137b16528beaaec09c345cd7498a20d206a7b3e5b3e65d4ff4a1ad4645b7f0b", func := "limbeck/limbecklaw02.FaultStays", spec := "faultStays", inPlace := ["internal/reflectlite.ValueOf", "(internal/reflectlite.Value).Type", "(internal/reflectlite.Value).IsNil", "internal/reflectlite.TypeOf", "(internal/reflectlite.Value).Elem", "(internal/reflectlite.Value).Set"], unfollowed := true, recurses := true, named := ["errors.errorType"], apart := false, laid := [("errors.errorType", laid_errors_errorType)], narrowed := true }
def FaultStaysUptoSaid : Prop := faultStaysUptoRow.holds Tryd.pinned (OpenSpec.upto faultStaysSpec)

/-- 'limbecklaw02.FaultNone', WHERE WHAT IT READS IS OF BULK AT MOST 1048576: true; the input reads as it did. -/
def faultNoneUptoRow : OpenClaim := { program := "ytedgebnmllinlaadoor", sum := "2137b16528beaaec09c345cd7498a20d206a7b3e5b3e65d4ff4a1ad4645b7f0b", func := "limbeck/limbecklaw02.FaultNone", spec := "faultNone", inPlace := ["internal/reflectlite.ValueOf", "(internal/reflectlite.Value).Type", "(internal/reflectlite.Value).IsNil", "internal/reflectlite.TypeOf", "(internal/reflectlite.Value).Elem", "(internal/reflectlite.Value).Set"], unfollowed := true, recurses := true, named := ["errors.errorType"], apart := false, laid := [("errors.errorType", laid_errors_errorType)], narrowed := true }
def FaultNoneUptoSaid : Prop := faultNoneUptoRow.holds Tryd.pinned (OpenSpec.upto faultNoneSpec)

/-- 'limbecklaw33.ObsTells', WHERE WHAT IT READS IS OF BULK AT MOST 1048576: true; the input reads as it did. -/
def obsTellsUptoRow : OpenClaim := { program := "ytedgebnmllinlaadoor", sum := "2137b16528beaaec09c345cd7498a20d206a7b3e5b3e65d4ff4a1ad4645b7f0b", func := "limbeck/limbecklaw33.ObsTells", spec := "obsTells", inPlace := ["internal/abi.NoEscape"], recurses := true, named := ["limbeck/obs.seen", "internal/strconv.uint64pow10", "math/bits.deBruijn32tab", "math/bits.deBruijn64tab"], loops := true, apart := false, laid := [("math/bits.deBruijn32tab", laid_math_bits_deBruijn32tab), ("math/bits.deBruijn64tab", laid_math_bits_deBruijn64tab), ("internal/strconv.uint64pow10", laid_internal_strconv_uint64pow10), ("limbeck/obs.seen", laid_limbeck_obs_seen)], narrowed := true }
def ObsTellsUptoSaid : Prop := obsTellsUptoRow.holds Tryd.pinned (OpenSpec.upto obsTellsSpec)

/-- 'limbecklaw33.ObsSeals', WHERE WHAT IT READS IS OF BULK AT MOST 1048576: true; the input reads as it did. -/
def obsSealsUptoRow : OpenClaim := { program := "ytedgebnmllinlaadoor", sum := "2137b16528beaaec09c345cd7498a20d206a7b3e5b3e65d4ff4a1ad4645b7f0b", func := "limbeck/limbecklaw33.ObsSeals", spec := "obsSeals", inPlace := ["internal/abi.NoEscape"], recurses := true, named := ["limbeck/obs.seen", "internal/strconv.uint64pow10", "math/bits.deBruijn32tab", "math/bits.deBruijn64tab"], loops := true, apart := false, laid := [("math/bits.deBruijn32tab", laid_math_bits_deBruijn32tab), ("math/bits.deBruijn64tab", laid_math_bits_deBruijn64tab), ("internal/strconv.uint64pow10", laid_internal_strconv_uint64pow10), ("limbeck/obs.seen", laid_limbeck_obs_seen)], narrowed := true }
def ObsSealsUptoSaid : Prop := obsSealsUptoRow.holds Tryd.pinned (OpenSpec.upto obsSealsSpec)

/-- 'limbecklaw05.TyfmtShows', WHERE WHAT IT READS IS OF BULK AT MOST 1048576: true; the input reads as it did. -/
def tyfmtShowsUptoRow : OpenClaim := { program := "ytedgebnmllinlaadoor", sum := "2137b16528beaaec09c345cd7498a20d206a7b3e5b3e65d4ff4a1ad4645b7f0b", func := "limbeck/limbecklaw05.TyfmtShows", spec := "tyfmtShows", inPlace := ["internal/abi.NoEscape"], unfollowed := true, recurses := true, named := ["internal/strconv.uint64pow10", "math/bits.deBruijn32tab", "math/bits.deBruijn64tab"], loops := true, apart := false, laid := [("math/bits.deBruijn32tab", laid_math_bits_deBruijn32tab), ("math/bits.deBruijn64tab", laid_math_bits_deBruijn64tab), ("internal/strconv.uint64pow10", laid_internal_strconv_uint64pow10)], narrowed := true }
def TyfmtShowsUptoSaid : Prop := tyfmtShowsUptoRow.holds Tryd.pinned (OpenSpec.upto tyfmtShowsSpec)

/-- 'limbecklaw05.TyfmtOne', WHERE WHAT IT READS IS OF BULK AT MOST 1048576: true; the input reads as it did. -/
def tyfmtOneUptoRow : OpenClaim := { program := "ytedgebnmllinlaadoor", sum := "2137b16528beaaec09c345cd7498a20d206a7b3e5b3e65d4ff4a1ad4645b7f0b", func := "limbeck/limbecklaw05.TyfmtOne", spec := "tyfmtOne", inPlace := ["internal/abi.NoEscape"], unfollowed := true, recurses := true, named := ["internal/strconv.uint64pow10", "math/bits.deBruijn32tab", "math/bits.deBruijn64tab"], loops := true, apart := false, laid := [("math/bits.deBruijn32tab", laid_math_bits_deBruijn32tab), ("math/bits.deBruijn64tab", laid_math_bits_deBruijn64tab), ("internal/strconv.uint64pow10", laid_internal_strconv_uint64pow10)], narrowed := true }
def TyfmtOneUptoSaid : Prop := tyfmtOneUptoRow.holds Tryd.pinned (OpenSpec.upto tyfmtOneSpec)

/-- 'limbecklaw05.TyfmtLists', WHERE WHAT IT READS IS OF BULK AT MOST 1048576: true; the input reads as it did. -/
def tyfmtListsUptoRow : OpenClaim := { program := "ytedgebnmllinlaadoor", sum := "2137b16528beaaec09c345cd7498a20d206a7b3e5b3e65d4ff4a1ad4645b7f0b", func := "limbeck/limbecklaw05.TyfmtLists", spec := "tyfmtLists", inPlace := ["internal/abi.NoEscape"], unfollowed := true, recurses := true, named := ["internal/strconv.uint64pow10", "math/bits.deBruijn32tab", "math/bits.deBruijn64tab"], loops := true, apart := false, laid := [("math/bits.deBruijn32tab", laid_math_bits_deBruijn32tab), ("math/bits.deBruijn64tab", laid_math_bits_deBruijn64tab), ("internal/strconv.uint64pow10", laid_internal_strconv_uint64pow10)], narrowed := true }
def TyfmtListsUptoSaid : Prop := tyfmtListsUptoRow.holds Tryd.pinned (OpenSpec.upto tyfmtListsSpec)

end Rows
end Go.Proofs.YtedgebnmllinlaaDoor

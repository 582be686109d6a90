/-
  NARROWER THAN 'FOR EVERY INPUT', by the rows' own cells (each row's printed sentence says how): DepsTell: loops · DepsOne: loops · DepsReach: loops.
  DERIVED. THE GIVEN ROWS OF THIS SEAT. 3 by the template 'for every input the law returns true; each argument reads behind the call as it read before'; 0 by the template 'total and deterministic' (their statements: YtleggogbmklddaaTotals.lean).
  GIVEN WITH THE SEED: the statements are not yours to turn. If you find one false, say at which input.
  Laid BY PROGRAM, IN A SANDBOX (cutbox-rows.mjs): the forced cells as the released guide's own fill.sh prints them over the translation 966fb927ec22c1b0… (all of the seat's roots in one cut). By AI agents, Wed Nov 11 2026. No macro, syntax, notation, axiom, sorry.
-/
import Derived.Test.YtleggogbmklddaaChecked
import GoSem.Claim
import GoSem.ClaimJoined
import GoSem.ClaimMapViews
import Derived.JoinedTies
import Derived.KernelRfl
namespace Go.Proofs.Ytleggogbmklddaa
/- THE CELL 'sum', in the pinned program and in every row, IS THE sha256 OF THE DUMP (.gsa) THAT YtleggogbmklddaaProg.lean LOADS. Nothing in Lean hashes anything: it is a label: what it is worth is what the hold of that sum in a sandbox is worth. -/
noncomputable def Try.pinned : Pinned := { name := "ytleggogbmklddaa", sum := "966fb927ec22c1b06a5a8041e44a70f615efa436165f079b88e91397ea99b27a", checked := Try.checked }
namespace Rows
def none {H : Type} : Left H := { results := [], args := [] }

/-- 'limbecklaw39.DepsTell': WHATEVER THE INPUT: true; the input reads as it did. -/
def depsTellSpec : ChangeSpec := { name := "depsTell", fn := fun _ => fun
  | [d1, d2, d3] => { results := [.lit (.bool true)], args := [d1, d2, d3] }
  | _ => none }
def depsTellRow : OpenClaim := { program := "ytleggogbmklddaa", sum := "966fb927ec22c1b06a5a8041e44a70f615efa436165f079b88e91397ea99b27a", func := "limbeck/limbecklaw39.DepsTell", spec := "depsTell", unfollowed := true, recurses := true, loops := true, apart := false }
def DepsTellSaid : Prop := depsTellRow.holds Try.pinned (OpenSpec.ofChange depsTellSpec)

/-- ITS FALSE NEIGHBOUR: 'it returns false'. Refute it at one input. -/
def depsTellWrong : ChangeSpec := { name := "depsTell", fn := fun _ => fun
  | [d1, d2, d3] => { results := [.lit (.bool false)], args := [d1, d2, d3] }
  | _ => none }
def DepsTellWrongFalsely : Prop := depsTellRow.holds Try.pinned (OpenSpec.ofChange depsTellWrong)

/-- 'limbecklaw39.DepsOne': WHATEVER THE INPUT: true; the input reads as it did. -/
def depsOneSpec : ChangeSpec := { name := "depsOne", fn := fun _ => fun
  | [d1, d2] => { results := [.lit (.bool true)], args := [d1, d2] }
  | _ => none }
def depsOneRow : OpenClaim := { program := "ytleggogbmklddaa", sum := "966fb927ec22c1b06a5a8041e44a70f615efa436165f079b88e91397ea99b27a", func := "limbeck/limbecklaw39.DepsOne", spec := "depsOne", unfollowed := true, recurses := true, loops := true, apart := false }
def DepsOneSaid : Prop := depsOneRow.holds Try.pinned (OpenSpec.ofChange depsOneSpec)

/-- ITS FALSE NEIGHBOUR: 'it returns false'. Refute it at one input. -/
def depsOneWrong : ChangeSpec := { name := "depsOne", fn := fun _ => fun
  | [d1, d2] => { results := [.lit (.bool false)], args := [d1, d2] }
  | _ => none }
def DepsOneWrongFalsely : Prop := depsOneRow.holds Try.pinned (OpenSpec.ofChange depsOneWrong)

/-- 'limbecklaw39.DepsReach': WHATEVER THE INPUT: true; the input reads as it did. -/
def depsReachSpec : ChangeSpec := { name := "depsReach", fn := fun _ => fun
  | [d1, d2] => { results := [.lit (.bool true)], args := [d1, d2] }
  | _ => none }
def depsReachRow : OpenClaim := { program := "ytleggogbmklddaa", sum := "966fb927ec22c1b06a5a8041e44a70f615efa436165f079b88e91397ea99b27a", func := "limbeck/limbecklaw39.DepsReach", spec := "depsReach", unfollowed := true, recurses := true, loops := true, apart := false }
def DepsReachSaid : Prop := depsReachRow.holds Try.pinned (OpenSpec.ofChange depsReachSpec)

/-- ITS FALSE NEIGHBOUR: 'it returns false'. Refute it at one input. -/
def depsReachWrong : ChangeSpec := { name := "depsReach", fn := fun _ => fun
  | [d1, d2] => { results := [.lit (.bool false)], args := [d1, d2] }
  | _ => none }
def DepsReachWrongFalsely : Prop := depsReachRow.holds Try.pinned (OpenSpec.ofChange depsReachWrong)

/- THE SECOND FORM. 'bulk': how many values and letters a reading holds, each counted each time it is reached (what is shared counts as often as it is met; a slice's spare places count too). A statement '..UptoSaid' is the law's where the arguments, and the package variables that the reading takes, are together of bulk at most 1048576: NARROWER than '..Said'. Prove '..Said' where nothing that the law and all that it calls make is longer than what came in: it says more and counts as full. Else prove '..UptoSaid'. A law counts once. -/
mutual
def uptoBulk {H : Type} : DataW H → Nat
  | .lit (.string bytes) => bytes.length + 1
  | .lit _ => 1
  | .nil => 1
  | .ptr d => uptoBulk d + 1
  | .slice elems spare => uptoBulkAll elems + uptoBulkAll spare + 1
  | .agg parts => uptoBulkAll parts + 1
  | .iface _ d => uptoBulk d + 1
  | .map entries => uptoBulkEntries entries + 1
  | .held _ => 1
def uptoBulkAll {H : Type} : List (DataW H) → Nat
  | [] => 0
  | d :: r => uptoBulk d + uptoBulkAll r
def uptoBulkEntries {H : Type} : List (Lit × DataW H) → Nat
  | [] => 0
  | x :: r => uptoBulkEntry x + uptoBulkEntries r
def uptoBulkEntry {H : Type} : Lit × DataW H → Nat
  | (.string bytes, d) => bytes.length + uptoBulk d + 1
  | (_, d) => uptoBulk d + 1
 end
def uptoSmall : (H : Type) → List (DataW H) → Bool := fun _ ds => decide (uptoBulkAll ds ≤ 1048576)
def OpenSpec.upto (s : _root_.Go.ChangeSpec) : _root_.Go.OpenSpec := { _root_.Go.OpenSpec.ofChange s with cond := some uptoSmall }

/-- 'limbecklaw39.DepsTell', WHERE WHAT IT READS IS OF BULK AT MOST 1048576: true; the input reads as it did. -/
def depsTellUptoRow : OpenClaim := { program := "ytleggogbmklddaa", sum := "966fb927ec22c1b06a5a8041e44a70f615efa436165f079b88e91397ea99b27a", func := "limbeck/limbecklaw39.DepsTell", spec := "depsTell", unfollowed := true, recurses := true, loops := true, apart := false, narrowed := true }
def DepsTellUptoSaid : Prop := depsTellUptoRow.holds Try.pinned (OpenSpec.upto depsTellSpec)

/-- 'limbecklaw39.DepsOne', WHERE WHAT IT READS IS OF BULK AT MOST 1048576: true; the input reads as it did. -/
def depsOneUptoRow : OpenClaim := { program := "ytleggogbmklddaa", sum := "966fb927ec22c1b06a5a8041e44a70f615efa436165f079b88e91397ea99b27a", func := "limbeck/limbecklaw39.DepsOne", spec := "depsOne", unfollowed := true, recurses := true, loops := true, apart := false, narrowed := true }
def DepsOneUptoSaid : Prop := depsOneUptoRow.holds Try.pinned (OpenSpec.upto depsOneSpec)

/-- 'limbecklaw39.DepsReach', WHERE WHAT IT READS IS OF BULK AT MOST 1048576: true; the input reads as it did. -/
def depsReachUptoRow : OpenClaim := { program := "ytleggogbmklddaa", sum := "966fb927ec22c1b06a5a8041e44a70f615efa436165f079b88e91397ea99b27a", func := "limbeck/limbecklaw39.DepsReach", spec := "depsReach", unfollowed := true, recurses := true, loops := true, apart := false, narrowed := true }
def DepsReachUptoSaid : Prop := depsReachUptoRow.holds Try.pinned (OpenSpec.upto depsReachSpec)

end Rows
end Go.Proofs.Ytleggogbmklddaa

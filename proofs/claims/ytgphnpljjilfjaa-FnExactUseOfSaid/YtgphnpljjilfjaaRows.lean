/-
  NARROWER THAN 'FOR EVERY INPUT', by the rows' own cells (each row's printed sentence says how): FnExactAlwaysReaches: loops · FnExactBoundsOf: loops · FnExactDominates: loops · FnExactDominatorsOf: loops · FnExactLoansOf: loops · FnExactLoopOf: loops · FnExactPathsFrom: loops · FnExactPathsTo: loops · FnExactSetBy: loops · FnExactUseOf: loops.
  DERIVED. THE GIVEN ROWS OF THIS SEAT. 10 by the template 'for every input the law returns true; each argument reads behind the call as it read before'; 0 by the template 'total and deterministic' (their statements: YtgphnpljjilfjaaTotals.lean).
  GIVEN WITH THE SEED: the statements are not yours to turn. If you find one false, say at which input.
  Laid BY PROGRAM, IN A SANDBOX (cutbox-rows.mjs): the forced cells as the released guide's own fill.sh prints them over the translation 111ba0a44db42fd5… (all of the seat's roots in one cut). By AI agents, Wed Nov 11 2026. No macro, syntax, notation, axiom, sorry.
-/
import Derived.Test.YtgphnpljjilfjaaChecked
import GoSem.Claim
import GoSem.ClaimJoined
import GoSem.ClaimMapViews
import Derived.JoinedTies
import Derived.KernelRfl
namespace Go.Proofs.Ytgphnpljjilfjaa
/- THE CELL 'sum', in the pinned program and in every row, IS THE sha256 OF THE DUMP (.gsa) THAT YtgphnpljjilfjaaProg.lean LOADS. Nothing in Lean hashes anything: it is a label: what it is worth is what the hold of that sum in a sandbox is worth. -/
noncomputable def Try.pinned : Pinned := { name := "ytgphnpljjilfjaa", sum := "111ba0a44db42fd5150a21d39d79998e52462f2bbcb89ded0b406d6ef7176d26", checked := Try.checked }
namespace Rows
def none {H : Type} : Left H := { results := [], args := [] }

/-- 'laws.FnExactAlwaysReaches': WHATEVER THE INPUT: true; the input reads as it did. -/
def fnExactAlwaysReachesSpec : ChangeSpec := { name := "fnExactAlwaysReaches", fn := fun _ => fun
  | [d1, d2, d3] => { results := [.lit (.bool true)], args := [d1, d2, d3] }
  | _ => none }
def fnExactAlwaysReachesRow : OpenClaim := { program := "ytgphnpljjilfjaa", sum := "111ba0a44db42fd5150a21d39d79998e52462f2bbcb89ded0b406d6ef7176d26", func := "loop.example/borrowcheck/laws.FnExactAlwaysReaches", spec := "fnExactAlwaysReaches", unfollowed := true, recurses := true, loops := true, apart := false }
def FnExactAlwaysReachesSaid : Prop := fnExactAlwaysReachesRow.holds Try.pinned (OpenSpec.ofChange fnExactAlwaysReachesSpec)

/-- ITS FALSE NEIGHBOUR: 'it returns false'. Refute it at one input. -/
def fnExactAlwaysReachesWrong : ChangeSpec := { name := "fnExactAlwaysReaches", fn := fun _ => fun
  | [d1, d2, d3] => { results := [.lit (.bool false)], args := [d1, d2, d3] }
  | _ => none }
def FnExactAlwaysReachesWrongFalsely : Prop := fnExactAlwaysReachesRow.holds Try.pinned (OpenSpec.ofChange fnExactAlwaysReachesWrong)

/-- 'laws.FnExactBoundsOf': WHATEVER THE INPUT: true; the input reads as it did. -/
def fnExactBoundsOfSpec : ChangeSpec := { name := "fnExactBoundsOf", fn := fun _ => fun
  | [d] => { results := [.lit (.bool true)], args := [d] }
  | _ => none }
def fnExactBoundsOfRow : OpenClaim := { program := "ytgphnpljjilfjaa", sum := "111ba0a44db42fd5150a21d39d79998e52462f2bbcb89ded0b406d6ef7176d26", func := "loop.example/borrowcheck/laws.FnExactBoundsOf", spec := "fnExactBoundsOf", unfollowed := true, recurses := true, loops := true, apart := false }
def FnExactBoundsOfSaid : Prop := fnExactBoundsOfRow.holds Try.pinned (OpenSpec.ofChange fnExactBoundsOfSpec)

/-- ITS FALSE NEIGHBOUR: 'it returns false'. Refute it at one input. -/
def fnExactBoundsOfWrong : ChangeSpec := { name := "fnExactBoundsOf", fn := fun _ => fun
  | [d] => { results := [.lit (.bool false)], args := [d] }
  | _ => none }
def FnExactBoundsOfWrongFalsely : Prop := fnExactBoundsOfRow.holds Try.pinned (OpenSpec.ofChange fnExactBoundsOfWrong)

/-- 'laws.FnExactDominates': WHATEVER THE INPUT: true; the input reads as it did. -/
def fnExactDominatesSpec : ChangeSpec := { name := "fnExactDominates", fn := fun _ => fun
  | [d1, d2, d3] => { results := [.lit (.bool true)], args := [d1, d2, d3] }
  | _ => none }
def fnExactDominatesRow : OpenClaim := { program := "ytgphnpljjilfjaa", sum := "111ba0a44db42fd5150a21d39d79998e52462f2bbcb89ded0b406d6ef7176d26", func := "loop.example/borrowcheck/laws.FnExactDominates", spec := "fnExactDominates", unfollowed := true, recurses := true, loops := true, apart := false }
def FnExactDominatesSaid : Prop := fnExactDominatesRow.holds Try.pinned (OpenSpec.ofChange fnExactDominatesSpec)

/-- ITS FALSE NEIGHBOUR: 'it returns false'. Refute it at one input. -/
def fnExactDominatesWrong : ChangeSpec := { name := "fnExactDominates", fn := fun _ => fun
  | [d1, d2, d3] => { results := [.lit (.bool false)], args := [d1, d2, d3] }
  | _ => none }
def FnExactDominatesWrongFalsely : Prop := fnExactDominatesRow.holds Try.pinned (OpenSpec.ofChange fnExactDominatesWrong)

/-- 'laws.FnExactDominatorsOf': WHATEVER THE INPUT: true; the input reads as it did. -/
def fnExactDominatorsOfSpec : ChangeSpec := { name := "fnExactDominatorsOf", fn := fun _ => fun
  | [d1, d2] => { results := [.lit (.bool true)], args := [d1, d2] }
  | _ => none }
def fnExactDominatorsOfRow : OpenClaim := { program := "ytgphnpljjilfjaa", sum := "111ba0a44db42fd5150a21d39d79998e52462f2bbcb89ded0b406d6ef7176d26", func := "loop.example/borrowcheck/laws.FnExactDominatorsOf", spec := "fnExactDominatorsOf", unfollowed := true, recurses := true, loops := true, apart := false }
def FnExactDominatorsOfSaid : Prop := fnExactDominatorsOfRow.holds Try.pinned (OpenSpec.ofChange fnExactDominatorsOfSpec)

/-- ITS FALSE NEIGHBOUR: 'it returns false'. Refute it at one input. -/
def fnExactDominatorsOfWrong : ChangeSpec := { name := "fnExactDominatorsOf", fn := fun _ => fun
  | [d1, d2] => { results := [.lit (.bool false)], args := [d1, d2] }
  | _ => none }
def FnExactDominatorsOfWrongFalsely : Prop := fnExactDominatorsOfRow.holds Try.pinned (OpenSpec.ofChange fnExactDominatorsOfWrong)

/-- 'laws.FnExactLoansOf': WHATEVER THE INPUT: true; the input reads as it did. -/
def fnExactLoansOfSpec : ChangeSpec := { name := "fnExactLoansOf", fn := fun _ => fun
  | [d] => { results := [.lit (.bool true)], args := [d] }
  | _ => none }
def fnExactLoansOfRow : OpenClaim := { program := "ytgphnpljjilfjaa", sum := "111ba0a44db42fd5150a21d39d79998e52462f2bbcb89ded0b406d6ef7176d26", func := "loop.example/borrowcheck/laws.FnExactLoansOf", spec := "fnExactLoansOf", unfollowed := true, recurses := true, loops := true, apart := false }
def FnExactLoansOfSaid : Prop := fnExactLoansOfRow.holds Try.pinned (OpenSpec.ofChange fnExactLoansOfSpec)

/-- ITS FALSE NEIGHBOUR: 'it returns false'. Refute it at one input. -/
def fnExactLoansOfWrong : ChangeSpec := { name := "fnExactLoansOf", fn := fun _ => fun
  | [d] => { results := [.lit (.bool false)], args := [d] }
  | _ => none }
def FnExactLoansOfWrongFalsely : Prop := fnExactLoansOfRow.holds Try.pinned (OpenSpec.ofChange fnExactLoansOfWrong)

/-- 'laws.FnExactLoopOf': WHATEVER THE INPUT: true; the input reads as it did. -/
def fnExactLoopOfSpec : ChangeSpec := { name := "fnExactLoopOf", fn := fun _ => fun
  | [d1, d2] => { results := [.lit (.bool true)], args := [d1, d2] }
  | _ => none }
def fnExactLoopOfRow : OpenClaim := { program := "ytgphnpljjilfjaa", sum := "111ba0a44db42fd5150a21d39d79998e52462f2bbcb89ded0b406d6ef7176d26", func := "loop.example/borrowcheck/laws.FnExactLoopOf", spec := "fnExactLoopOf", unfollowed := true, recurses := true, loops := true, apart := false }
def FnExactLoopOfSaid : Prop := fnExactLoopOfRow.holds Try.pinned (OpenSpec.ofChange fnExactLoopOfSpec)

/-- ITS FALSE NEIGHBOUR: 'it returns false'. Refute it at one input. -/
def fnExactLoopOfWrong : ChangeSpec := { name := "fnExactLoopOf", fn := fun _ => fun
  | [d1, d2] => { results := [.lit (.bool false)], args := [d1, d2] }
  | _ => none }
def FnExactLoopOfWrongFalsely : Prop := fnExactLoopOfRow.holds Try.pinned (OpenSpec.ofChange fnExactLoopOfWrong)

/-- 'laws.FnExactPathsFrom': WHATEVER THE INPUT: true; the input reads as it did. -/
def fnExactPathsFromSpec : ChangeSpec := { name := "fnExactPathsFrom", fn := fun _ => fun
  | [d1, d2] => { results := [.lit (.bool true)], args := [d1, d2] }
  | _ => none }
def fnExactPathsFromRow : OpenClaim := { program := "ytgphnpljjilfjaa", sum := "111ba0a44db42fd5150a21d39d79998e52462f2bbcb89ded0b406d6ef7176d26", func := "loop.example/borrowcheck/laws.FnExactPathsFrom", spec := "fnExactPathsFrom", unfollowed := true, recurses := true, loops := true, apart := false }
def FnExactPathsFromSaid : Prop := fnExactPathsFromRow.holds Try.pinned (OpenSpec.ofChange fnExactPathsFromSpec)

/-- ITS FALSE NEIGHBOUR: 'it returns false'. Refute it at one input. -/
def fnExactPathsFromWrong : ChangeSpec := { name := "fnExactPathsFrom", fn := fun _ => fun
  | [d1, d2] => { results := [.lit (.bool false)], args := [d1, d2] }
  | _ => none }
def FnExactPathsFromWrongFalsely : Prop := fnExactPathsFromRow.holds Try.pinned (OpenSpec.ofChange fnExactPathsFromWrong)

/-- 'laws.FnExactPathsTo': WHATEVER THE INPUT: true; the input reads as it did. -/
def fnExactPathsToSpec : ChangeSpec := { name := "fnExactPathsTo", fn := fun _ => fun
  | [d1, d2] => { results := [.lit (.bool true)], args := [d1, d2] }
  | _ => none }
def fnExactPathsToRow : OpenClaim := { program := "ytgphnpljjilfjaa", sum := "111ba0a44db42fd5150a21d39d79998e52462f2bbcb89ded0b406d6ef7176d26", func := "loop.example/borrowcheck/laws.FnExactPathsTo", spec := "fnExactPathsTo", unfollowed := true, recurses := true, loops := true, apart := false }
def FnExactPathsToSaid : Prop := fnExactPathsToRow.holds Try.pinned (OpenSpec.ofChange fnExactPathsToSpec)

/-- ITS FALSE NEIGHBOUR: 'it returns false'. Refute it at one input. -/
def fnExactPathsToWrong : ChangeSpec := { name := "fnExactPathsTo", fn := fun _ => fun
  | [d1, d2] => { results := [.lit (.bool false)], args := [d1, d2] }
  | _ => none }
def FnExactPathsToWrongFalsely : Prop := fnExactPathsToRow.holds Try.pinned (OpenSpec.ofChange fnExactPathsToWrong)

/-- 'laws.FnExactSetBy': WHATEVER THE INPUT: true; the input reads as it did. -/
def fnExactSetBySpec : ChangeSpec := { name := "fnExactSetBy", fn := fun _ => fun
  | [d1, d2] => { results := [.lit (.bool true)], args := [d1, d2] }
  | _ => none }
def fnExactSetByRow : OpenClaim := { program := "ytgphnpljjilfjaa", sum := "111ba0a44db42fd5150a21d39d79998e52462f2bbcb89ded0b406d6ef7176d26", func := "loop.example/borrowcheck/laws.FnExactSetBy", spec := "fnExactSetBy", unfollowed := true, recurses := true, loops := true, apart := false }
def FnExactSetBySaid : Prop := fnExactSetByRow.holds Try.pinned (OpenSpec.ofChange fnExactSetBySpec)

/-- ITS FALSE NEIGHBOUR: 'it returns false'. Refute it at one input. -/
def fnExactSetByWrong : ChangeSpec := { name := "fnExactSetBy", fn := fun _ => fun
  | [d1, d2] => { results := [.lit (.bool false)], args := [d1, d2] }
  | _ => none }
def FnExactSetByWrongFalsely : Prop := fnExactSetByRow.holds Try.pinned (OpenSpec.ofChange fnExactSetByWrong)

/-- 'laws.FnExactUseOf': WHATEVER THE INPUT: true; the input reads as it did. -/
def fnExactUseOfSpec : ChangeSpec := { name := "fnExactUseOf", fn := fun _ => fun
  | [d1, d2, d3] => { results := [.lit (.bool true)], args := [d1, d2, d3] }
  | _ => none }
def fnExactUseOfRow : OpenClaim := { program := "ytgphnpljjilfjaa", sum := "111ba0a44db42fd5150a21d39d79998e52462f2bbcb89ded0b406d6ef7176d26", func := "loop.example/borrowcheck/laws.FnExactUseOf", spec := "fnExactUseOf", unfollowed := true, recurses := true, loops := true, apart := false }
def FnExactUseOfSaid : Prop := fnExactUseOfRow.holds Try.pinned (OpenSpec.ofChange fnExactUseOfSpec)

/-- ITS FALSE NEIGHBOUR: 'it returns false'. Refute it at one input. -/
def fnExactUseOfWrong : ChangeSpec := { name := "fnExactUseOf", fn := fun _ => fun
  | [d1, d2, d3] => { results := [.lit (.bool false)], args := [d1, d2, d3] }
  | _ => none }
def FnExactUseOfWrongFalsely : Prop := fnExactUseOfRow.holds Try.pinned (OpenSpec.ofChange fnExactUseOfWrong)

/- THE SECOND FORM. 'bulk': how many values and letters a reading holds, each counted each time it is reached (what is shared counts as often as it is met; a slice's spare places count too). A statement '..UptoSaid' is the law's where the arguments, and the package variables that the reading takes, are together of bulk at most 1048576: NARROWER than '..Said'. Prove '..Said' where nothing that the law and all that it calls make is longer than what came in: it says more and counts as full. Else prove '..UptoSaid'. A law counts once. -/
mutual
def uptoBulk {H : Type} : DataW H → Nat
  | .lit (.string bytes) => bytes.length + 1
  | .lit _ => 1
  | .nil => 1
  | .ptr d => uptoBulk d + 1
  | .slice elems spare => uptoBulkAll elems + uptoBulkAll spare + 1
  | .agg parts => uptoBulkAll parts + 1
  | .iface _ d => uptoBulk d + 1
  | .map entries => uptoBulkEntries entries + 1
  | .held _ => 1
def uptoBulkAll {H : Type} : List (DataW H) → Nat
  | [] => 0
  | d :: r => uptoBulk d + uptoBulkAll r
def uptoBulkEntries {H : Type} : List (Lit × DataW H) → Nat
  | [] => 0
  | x :: r => uptoBulkEntry x + uptoBulkEntries r
def uptoBulkEntry {H : Type} : Lit × DataW H → Nat
  | (.string bytes, d) => bytes.length + uptoBulk d + 1
  | (_, d) => uptoBulk d + 1
 end
def uptoSmall : (H : Type) → List (DataW H) → Bool := fun _ ds => decide (uptoBulkAll ds ≤ 1048576)
def OpenSpec.upto (s : _root_.Go.ChangeSpec) : _root_.Go.OpenSpec := { _root_.Go.OpenSpec.ofChange s with cond := some uptoSmall }

/-- 'laws.FnExactAlwaysReaches', WHERE WHAT IT READS IS OF BULK AT MOST 1048576: true; the input reads as it did. -/
def fnExactAlwaysReachesUptoRow : OpenClaim := { program := "ytgphnpljjilfjaa", sum := "111ba0a44db42fd5150a21d39d79998e52462f2bbcb89ded0b406d6ef7176d26", func := "loop.example/borrowcheck/laws.FnExactAlwaysReaches", spec := "fnExactAlwaysReaches", unfollowed := true, recurses := true, loops := true, apart := false, narrowed := true }
def FnExactAlwaysReachesUptoSaid : Prop := fnExactAlwaysReachesUptoRow.holds Try.pinned (OpenSpec.upto fnExactAlwaysReachesSpec)

/-- 'laws.FnExactBoundsOf', WHERE WHAT IT READS IS OF BULK AT MOST 1048576: true; the input reads as it did. -/
def fnExactBoundsOfUptoRow : OpenClaim := { program := "ytgphnpljjilfjaa", sum := "111ba0a44db42fd5150a21d39d79998e52462f2bbcb89ded0b406d6ef7176d26", func := "loop.example/borrowcheck/laws.FnExactBoundsOf", spec := "fnExactBoundsOf", unfollowed := true, recurses := true, loops := true, apart := false, narrowed := true }
def FnExactBoundsOfUptoSaid : Prop := fnExactBoundsOfUptoRow.holds Try.pinned (OpenSpec.upto fnExactBoundsOfSpec)

/-- 'laws.FnExactDominates', WHERE WHAT IT READS IS OF BULK AT MOST 1048576: true; the input reads as it did. -/
def fnExactDominatesUptoRow : OpenClaim := { program := "ytgphnpljjilfjaa", sum := "111ba0a44db42fd5150a21d39d79998e52462f2bbcb89ded0b406d6ef7176d26", func := "loop.example/borrowcheck/laws.FnExactDominates", spec := "fnExactDominates", unfollowed := true, recurses := true, loops := true, apart := false, narrowed := true }
def FnExactDominatesUptoSaid : Prop := fnExactDominatesUptoRow.holds Try.pinned (OpenSpec.upto fnExactDominatesSpec)

/-- 'laws.FnExactDominatorsOf', WHERE WHAT IT READS IS OF BULK AT MOST 1048576: true; the input reads as it did. -/
def fnExactDominatorsOfUptoRow : OpenClaim := { program := "ytgphnpljjilfjaa", sum := "111ba0a44db42fd5150a21d39d79998e52462f2bbcb89ded0b406d6ef7176d26", func := "loop.example/borrowcheck/laws.FnExactDominatorsOf", spec := "fnExactDominatorsOf", unfollowed := true, recurses := true, loops := true, apart := false, narrowed := true }
def FnExactDominatorsOfUptoSaid : Prop := fnExactDominatorsOfUptoRow.holds Try.pinned (OpenSpec.upto fnExactDominatorsOfSpec)

/-- 'laws.FnExactLoansOf', WHERE WHAT IT READS IS OF BULK AT MOST 1048576: true; the input reads as it did. -/
def fnExactLoansOfUptoRow : OpenClaim := { program := "ytgphnpljjilfjaa", sum := "111ba0a44db42fd5150a21d39d79998e52462f2bbcb89ded0b406d6ef7176d26", func := "loop.example/borrowcheck/laws.FnExactLoansOf", spec := "fnExactLoansOf", unfollowed := true, recurses := true, loops := true, apart := false, narrowed := true }
def FnExactLoansOfUptoSaid : Prop := fnExactLoansOfUptoRow.holds Try.pinned (OpenSpec.upto fnExactLoansOfSpec)

/-- 'laws.FnExactLoopOf', WHERE WHAT IT READS IS OF BULK AT MOST 1048576: true; the input reads as it did. -/
def fnExactLoopOfUptoRow : OpenClaim := { program := "ytgphnpljjilfjaa", sum := "111ba0a44db42fd5150a21d39d79998e52462f2bbcb89ded0b406d6ef7176d26", func := "loop.example/borrowcheck/laws.FnExactLoopOf", spec := "fnExactLoopOf", unfollowed := true, recurses := true, loops := true, apart := false, narrowed := true }
def FnExactLoopOfUptoSaid : Prop := fnExactLoopOfUptoRow.holds Try.pinned (OpenSpec.upto fnExactLoopOfSpec)

/-- 'laws.FnExactPathsFrom', WHERE WHAT IT READS IS OF BULK AT MOST 1048576: true; the input reads as it did. -/
def fnExactPathsFromUptoRow : OpenClaim := { program := "ytgphnpljjilfjaa", sum := "111ba0a44db42fd5150a21d39d79998e52462f2bbcb89ded0b406d6ef7176d26", func := "loop.example/borrowcheck/laws.FnExactPathsFrom", spec := "fnExactPathsFrom", unfollowed := true, recurses := true, loops := true, apart := false, narrowed := true }
def FnExactPathsFromUptoSaid : Prop := fnExactPathsFromUptoRow.holds Try.pinned (OpenSpec.upto fnExactPathsFromSpec)

/-- 'laws.FnExactPathsTo', WHERE WHAT IT READS IS OF BULK AT MOST 1048576: true; the input reads as it did. -/
def fnExactPathsToUptoRow : OpenClaim := { program := "ytgphnpljjilfjaa", sum := "111ba0a44db42fd5150a21d39d79998e52462f2bbcb89ded0b406d6ef7176d26", func := "loop.example/borrowcheck/laws.FnExactPathsTo", spec := "fnExactPathsTo", unfollowed := true, recurses := true, loops := true, apart := false, narrowed := true }
def FnExactPathsToUptoSaid : Prop := fnExactPathsToUptoRow.holds Try.pinned (OpenSpec.upto fnExactPathsToSpec)

/-- 'laws.FnExactSetBy', WHERE WHAT IT READS IS OF BULK AT MOST 1048576: true; the input reads as it did. -/
def fnExactSetByUptoRow : OpenClaim := { program := "ytgphnpljjilfjaa", sum := "111ba0a44db42fd5150a21d39d79998e52462f2bbcb89ded0b406d6ef7176d26", func := "loop.example/borrowcheck/laws.FnExactSetBy", spec := "fnExactSetBy", unfollowed := true, recurses := true, loops := true, apart := false, narrowed := true }
def FnExactSetByUptoSaid : Prop := fnExactSetByUptoRow.holds Try.pinned (OpenSpec.upto fnExactSetBySpec)

/-- 'laws.FnExactUseOf', WHERE WHAT IT READS IS OF BULK AT MOST 1048576: true; the input reads as it did. -/
def fnExactUseOfUptoRow : OpenClaim := { program := "ytgphnpljjilfjaa", sum := "111ba0a44db42fd5150a21d39d79998e52462f2bbcb89ded0b406d6ef7176d26", func := "loop.example/borrowcheck/laws.FnExactUseOf", spec := "fnExactUseOf", unfollowed := true, recurses := true, loops := true, apart := false, narrowed := true }
def FnExactUseOfUptoSaid : Prop := fnExactUseOfUptoRow.holds Try.pinned (OpenSpec.upto fnExactUseOfSpec)

end Rows
end Go.Proofs.Ytgphnpljjilfjaa

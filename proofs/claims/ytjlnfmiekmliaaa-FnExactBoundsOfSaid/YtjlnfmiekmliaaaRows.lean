/-
  NARROWER THAN 'FOR EVERY INPUT', by the rows' own cells (each row's printed sentence says how): FnExactSetBy: loops · FnExactAlwaysReaches: loops · FnExactDominates: loops · FnExactUseOf: loops · FnExactLoopOf: loops · FnExactOutlives: loops · FnExactLoansOf: loops · FnExactDominatorsOf: loops · FnExactPointsOf: loops · FnExactPathsTo: loops · FnExactBoundsOf: loops · FnExactPathsFrom: loops.
  DERIVED. THE GIVEN ROWS OF THIS SEAT. 12 by the template 'for every input the law returns true; each argument reads behind the call as it read before'; 0 by the template 'total and deterministic' (their statements: YtjlnfmiekmliaaaTotals.lean).
  GIVEN WITH THE SEED: the statements are not yours to turn. If you find one false, say at which input.
  Laid BY PROGRAM, IN A SANDBOX (cutbox-rows.mjs): the forced cells as the released guide's own fill.sh prints them over the translation 8c7e503519a70fb5… (all of the seat's roots in one cut). By AI agents, Wed Nov 11 2026. No macro, syntax, notation, axiom, sorry.
-/
import Derived.Test.YtjlnfmiekmliaaaChecked
import GoSem.Claim
import GoSem.ClaimJoined
import GoSem.ClaimMapViews
import Derived.JoinedTies
import Derived.KernelRfl
namespace Go.Proofs.Ytjlnfmiekmliaaa
/- THE CELL 'sum', in the pinned program and in every row, IS THE sha256 OF THE DUMP (.gsa) THAT YtjlnfmiekmliaaaProg.lean LOADS. Nothing in Lean hashes anything: it is a label: what it is worth is what the hold of that sum in a sandbox is worth. -/
noncomputable def Try.pinned : Pinned := { name := "ytjlnfmiekmliaaa", sum := "8c7e503519a70fb5ea90aef9963fa751df2dd24fe0634b439e64c05b7843b203", checked := Try.checked }
namespace Rows
def none {H : Type} : Left H := { results := [], args := [] }

/-- 'laws.FnExactSetBy': WHATEVER THE INPUT: true; the input reads as it did. -/
def fnExactSetBySpec : ChangeSpec := { name := "fnExactSetBy", fn := fun _ => fun
  | [d1, d2] => { results := [.lit (.bool true)], args := [d1, d2] }
  | _ => none }
def fnExactSetByRow : OpenClaim := { program := "ytjlnfmiekmliaaa", sum := "8c7e503519a70fb5ea90aef9963fa751df2dd24fe0634b439e64c05b7843b203", func := "loop.example/borrowcheck/laws.FnExactSetBy", spec := "fnExactSetBy", unfollowed := true, recurses := true, loops := true, apart := false }
def FnExactSetBySaid : Prop := fnExactSetByRow.holds Try.pinned (OpenSpec.ofChange fnExactSetBySpec)

/-- ITS FALSE NEIGHBOUR: 'it returns false'. Refute it at one input. -/
def fnExactSetByWrong : ChangeSpec := { name := "fnExactSetBy", fn := fun _ => fun
  | [d1, d2] => { results := [.lit (.bool false)], args := [d1, d2] }
  | _ => none }
def FnExactSetByWrongFalsely : Prop := fnExactSetByRow.holds Try.pinned (OpenSpec.ofChange fnExactSetByWrong)

/-- 'laws.FnExactAlwaysReaches': WHATEVER THE INPUT: true; the input reads as it did. -/
def fnExactAlwaysReachesSpec : ChangeSpec := { name := "fnExactAlwaysReaches", fn := fun _ => fun
  | [d1, d2, d3] => { results := [.lit (.bool true)], args := [d1, d2, d3] }
  | _ => none }
def fnExactAlwaysReachesRow : OpenClaim := { program := "ytjlnfmiekmliaaa", sum := "8c7e503519a70fb5ea90aef9963fa751df2dd24fe0634b439e64c05b7843b203", func := "loop.example/borrowcheck/laws.FnExactAlwaysReaches", spec := "fnExactAlwaysReaches", unfollowed := true, recurses := true, loops := true, apart := false }
def FnExactAlwaysReachesSaid : Prop := fnExactAlwaysReachesRow.holds Try.pinned (OpenSpec.ofChange fnExactAlwaysReachesSpec)

/-- ITS FALSE NEIGHBOUR: 'it returns false'. Refute it at one input. -/
def fnExactAlwaysReachesWrong : ChangeSpec := { name := "fnExactAlwaysReaches", fn := fun _ => fun
  | [d1, d2, d3] => { results := [.lit (.bool false)], args := [d1, d2, d3] }
  | _ => none }
def FnExactAlwaysReachesWrongFalsely : Prop := fnExactAlwaysReachesRow.holds Try.pinned (OpenSpec.ofChange fnExactAlwaysReachesWrong)

/-- 'laws.FnExactDominates': WHATEVER THE INPUT: true; the input reads as it did. -/
def fnExactDominatesSpec : ChangeSpec := { name := "fnExactDominates", fn := fun _ => fun
  | [d1, d2, d3] => { results := [.lit (.bool true)], args := [d1, d2, d3] }
  | _ => none }
def fnExactDominatesRow : OpenClaim := { program := "ytjlnfmiekmliaaa", sum := "8c7e503519a70fb5ea90aef9963fa751df2dd24fe0634b439e64c05b7843b203", func := "loop.example/borrowcheck/laws.FnExactDominates", spec := "fnExactDominates", unfollowed := true, recurses := true, loops := true, apart := false }
def FnExactDominatesSaid : Prop := fnExactDominatesRow.holds Try.pinned (OpenSpec.ofChange fnExactDominatesSpec)

/-- ITS FALSE NEIGHBOUR: 'it returns false'. Refute it at one input. -/
def fnExactDominatesWrong : ChangeSpec := { name := "fnExactDominates", fn := fun _ => fun
  | [d1, d2, d3] => { results := [.lit (.bool false)], args := [d1, d2, d3] }
  | _ => none }
def FnExactDominatesWrongFalsely : Prop := fnExactDominatesRow.holds Try.pinned (OpenSpec.ofChange fnExactDominatesWrong)

/-- 'laws.FnExactUseOf': WHATEVER THE INPUT: true; the input reads as it did. -/
def fnExactUseOfSpec : ChangeSpec := { name := "fnExactUseOf", fn := fun _ => fun
  | [d1, d2, d3] => { results := [.lit (.bool true)], args := [d1, d2, d3] }
  | _ => none }
def fnExactUseOfRow : OpenClaim := { program := "ytjlnfmiekmliaaa", sum := "8c7e503519a70fb5ea90aef9963fa751df2dd24fe0634b439e64c05b7843b203", func := "loop.example/borrowcheck/laws.FnExactUseOf", spec := "fnExactUseOf", unfollowed := true, recurses := true, loops := true, apart := false }
def FnExactUseOfSaid : Prop := fnExactUseOfRow.holds Try.pinned (OpenSpec.ofChange fnExactUseOfSpec)

/-- ITS FALSE NEIGHBOUR: 'it returns false'. Refute it at one input. -/
def fnExactUseOfWrong : ChangeSpec := { name := "fnExactUseOf", fn := fun _ => fun
  | [d1, d2, d3] => { results := [.lit (.bool false)], args := [d1, d2, d3] }
  | _ => none }
def FnExactUseOfWrongFalsely : Prop := fnExactUseOfRow.holds Try.pinned (OpenSpec.ofChange fnExactUseOfWrong)

/-- 'laws.FnExactLoopOf': WHATEVER THE INPUT: true; the input reads as it did. -/
def fnExactLoopOfSpec : ChangeSpec := { name := "fnExactLoopOf", fn := fun _ => fun
  | [d1, d2] => { results := [.lit (.bool true)], args := [d1, d2] }
  | _ => none }
def fnExactLoopOfRow : OpenClaim := { program := "ytjlnfmiekmliaaa", sum := "8c7e503519a70fb5ea90aef9963fa751df2dd24fe0634b439e64c05b7843b203", func := "loop.example/borrowcheck/laws.FnExactLoopOf", spec := "fnExactLoopOf", unfollowed := true, recurses := true, loops := true, apart := false }
def FnExactLoopOfSaid : Prop := fnExactLoopOfRow.holds Try.pinned (OpenSpec.ofChange fnExactLoopOfSpec)

/-- ITS FALSE NEIGHBOUR: 'it returns false'. Refute it at one input. -/
def fnExactLoopOfWrong : ChangeSpec := { name := "fnExactLoopOf", fn := fun _ => fun
  | [d1, d2] => { results := [.lit (.bool false)], args := [d1, d2] }
  | _ => none }
def FnExactLoopOfWrongFalsely : Prop := fnExactLoopOfRow.holds Try.pinned (OpenSpec.ofChange fnExactLoopOfWrong)

/-- 'laws.FnExactOutlives': WHATEVER THE INPUT: true; the input reads as it did. -/
def fnExactOutlivesSpec : ChangeSpec := { name := "fnExactOutlives", fn := fun _ => fun
  | [d1, d2, d3] => { results := [.lit (.bool true)], args := [d1, d2, d3] }
  | _ => none }
def fnExactOutlivesRow : OpenClaim := { program := "ytjlnfmiekmliaaa", sum := "8c7e503519a70fb5ea90aef9963fa751df2dd24fe0634b439e64c05b7843b203", func := "loop.example/borrowcheck/laws.FnExactOutlives", spec := "fnExactOutlives", unfollowed := true, recurses := true, loops := true, apart := false }
def FnExactOutlivesSaid : Prop := fnExactOutlivesRow.holds Try.pinned (OpenSpec.ofChange fnExactOutlivesSpec)

/-- ITS FALSE NEIGHBOUR: 'it returns false'. Refute it at one input. -/
def fnExactOutlivesWrong : ChangeSpec := { name := "fnExactOutlives", fn := fun _ => fun
  | [d1, d2, d3] => { results := [.lit (.bool false)], args := [d1, d2, d3] }
  | _ => none }
def FnExactOutlivesWrongFalsely : Prop := fnExactOutlivesRow.holds Try.pinned (OpenSpec.ofChange fnExactOutlivesWrong)

/-- 'laws.FnExactLoansOf': WHATEVER THE INPUT: true; the input reads as it did. -/
def fnExactLoansOfSpec : ChangeSpec := { name := "fnExactLoansOf", fn := fun _ => fun
  | [d] => { results := [.lit (.bool true)], args := [d] }
  | _ => none }
def fnExactLoansOfRow : OpenClaim := { program := "ytjlnfmiekmliaaa", sum := "8c7e503519a70fb5ea90aef9963fa751df2dd24fe0634b439e64c05b7843b203", func := "loop.example/borrowcheck/laws.FnExactLoansOf", spec := "fnExactLoansOf", unfollowed := true, recurses := true, loops := true, apart := false }
def FnExactLoansOfSaid : Prop := fnExactLoansOfRow.holds Try.pinned (OpenSpec.ofChange fnExactLoansOfSpec)

/-- ITS FALSE NEIGHBOUR: 'it returns false'. Refute it at one input. -/
def fnExactLoansOfWrong : ChangeSpec := { name := "fnExactLoansOf", fn := fun _ => fun
  | [d] => { results := [.lit (.bool false)], args := [d] }
  | _ => none }
def FnExactLoansOfWrongFalsely : Prop := fnExactLoansOfRow.holds Try.pinned (OpenSpec.ofChange fnExactLoansOfWrong)

/-- 'laws.FnExactDominatorsOf': WHATEVER THE INPUT: true; the input reads as it did. -/
def fnExactDominatorsOfSpec : ChangeSpec := { name := "fnExactDominatorsOf", fn := fun _ => fun
  | [d1, d2] => { results := [.lit (.bool true)], args := [d1, d2] }
  | _ => none }
def fnExactDominatorsOfRow : OpenClaim := { program := "ytjlnfmiekmliaaa", sum := "8c7e503519a70fb5ea90aef9963fa751df2dd24fe0634b439e64c05b7843b203", func := "loop.example/borrowcheck/laws.FnExactDominatorsOf", spec := "fnExactDominatorsOf", unfollowed := true, recurses := true, loops := true, apart := false }
def FnExactDominatorsOfSaid : Prop := fnExactDominatorsOfRow.holds Try.pinned (OpenSpec.ofChange fnExactDominatorsOfSpec)

/-- ITS FALSE NEIGHBOUR: 'it returns false'. Refute it at one input. -/
def fnExactDominatorsOfWrong : ChangeSpec := { name := "fnExactDominatorsOf", fn := fun _ => fun
  | [d1, d2] => { results := [.lit (.bool false)], args := [d1, d2] }
  | _ => none }
def FnExactDominatorsOfWrongFalsely : Prop := fnExactDominatorsOfRow.holds Try.pinned (OpenSpec.ofChange fnExactDominatorsOfWrong)

/-- 'laws.FnExactPointsOf': WHATEVER THE INPUT: true; the input reads as it did. -/
def fnExactPointsOfSpec : ChangeSpec := { name := "fnExactPointsOf", fn := fun _ => fun
  | [d] => { results := [.lit (.bool true)], args := [d] }
  | _ => none }
def fnExactPointsOfRow : OpenClaim := { program := "ytjlnfmiekmliaaa", sum := "8c7e503519a70fb5ea90aef9963fa751df2dd24fe0634b439e64c05b7843b203", func := "loop.example/borrowcheck/laws.FnExactPointsOf", spec := "fnExactPointsOf", unfollowed := true, recurses := true, loops := true, apart := false }
def FnExactPointsOfSaid : Prop := fnExactPointsOfRow.holds Try.pinned (OpenSpec.ofChange fnExactPointsOfSpec)

/-- ITS FALSE NEIGHBOUR: 'it returns false'. Refute it at one input. -/
def fnExactPointsOfWrong : ChangeSpec := { name := "fnExactPointsOf", fn := fun _ => fun
  | [d] => { results := [.lit (.bool false)], args := [d] }
  | _ => none }
def FnExactPointsOfWrongFalsely : Prop := fnExactPointsOfRow.holds Try.pinned (OpenSpec.ofChange fnExactPointsOfWrong)

/-- 'laws.FnExactPathsTo': WHATEVER THE INPUT: true; the input reads as it did. -/
def fnExactPathsToSpec : ChangeSpec := { name := "fnExactPathsTo", fn := fun _ => fun
  | [d1, d2] => { results := [.lit (.bool true)], args := [d1, d2] }
  | _ => none }
def fnExactPathsToRow : OpenClaim := { program := "ytjlnfmiekmliaaa", sum := "8c7e503519a70fb5ea90aef9963fa751df2dd24fe0634b439e64c05b7843b203", func := "loop.example/borrowcheck/laws.FnExactPathsTo", spec := "fnExactPathsTo", unfollowed := true, recurses := true, loops := true, apart := false }
def FnExactPathsToSaid : Prop := fnExactPathsToRow.holds Try.pinned (OpenSpec.ofChange fnExactPathsToSpec)

/-- ITS FALSE NEIGHBOUR: 'it returns false'. Refute it at one input. -/
def fnExactPathsToWrong : ChangeSpec := { name := "fnExactPathsTo", fn := fun _ => fun
  | [d1, d2] => { results := [.lit (.bool false)], args := [d1, d2] }
  | _ => none }
def FnExactPathsToWrongFalsely : Prop := fnExactPathsToRow.holds Try.pinned (OpenSpec.ofChange fnExactPathsToWrong)

/-- 'laws.FnExactBoundsOf': WHATEVER THE INPUT: true; the input reads as it did. -/
def fnExactBoundsOfSpec : ChangeSpec := { name := "fnExactBoundsOf", fn := fun _ => fun
  | [d] => { results := [.lit (.bool true)], args := [d] }
  | _ => none }
def fnExactBoundsOfRow : OpenClaim := { program := "ytjlnfmiekmliaaa", sum := "8c7e503519a70fb5ea90aef9963fa751df2dd24fe0634b439e64c05b7843b203", func := "loop.example/borrowcheck/laws.FnExactBoundsOf", spec := "fnExactBoundsOf", unfollowed := true, recurses := true, loops := true, apart := false }
def FnExactBoundsOfSaid : Prop := fnExactBoundsOfRow.holds Try.pinned (OpenSpec.ofChange fnExactBoundsOfSpec)

/-- ITS FALSE NEIGHBOUR: 'it returns false'. Refute it at one input. -/
def fnExactBoundsOfWrong : ChangeSpec := { name := "fnExactBoundsOf", fn := fun _ => fun
  | [d] => { results := [.lit (.bool false)], args := [d] }
  | _ => none }
def FnExactBoundsOfWrongFalsely : Prop := fnExactBoundsOfRow.holds Try.pinned (OpenSpec.ofChange fnExactBoundsOfWrong)

/-- 'laws.FnExactPathsFrom': WHATEVER THE INPUT: true; the input reads as it did. -/
def fnExactPathsFromSpec : ChangeSpec := { name := "fnExactPathsFrom", fn := fun _ => fun
  | [d1, d2] => { results := [.lit (.bool true)], args := [d1, d2] }
  | _ => none }
def fnExactPathsFromRow : OpenClaim := { program := "ytjlnfmiekmliaaa", sum := "8c7e503519a70fb5ea90aef9963fa751df2dd24fe0634b439e64c05b7843b203", func := "loop.example/borrowcheck/laws.FnExactPathsFrom", spec := "fnExactPathsFrom", unfollowed := true, recurses := true, loops := true, apart := false }
def FnExactPathsFromSaid : Prop := fnExactPathsFromRow.holds Try.pinned (OpenSpec.ofChange fnExactPathsFromSpec)

/-- ITS FALSE NEIGHBOUR: 'it returns false'. Refute it at one input. -/
def fnExactPathsFromWrong : ChangeSpec := { name := "fnExactPathsFrom", fn := fun _ => fun
  | [d1, d2] => { results := [.lit (.bool false)], args := [d1, d2] }
  | _ => none }
def FnExactPathsFromWrongFalsely : Prop := fnExactPathsFromRow.holds Try.pinned (OpenSpec.ofChange fnExactPathsFromWrong)

/- THE SECOND FORM. 'bulk': how many values and letters a reading holds, each counted each time it is reached (what is shared counts as often as it is met; a slice's spare places count too). A statement '..UptoSaid' is the law's where the arguments, and the package variables that the reading takes, are together of bulk at most 1048576: NARROWER than '..Said'. Prove '..Said' where nothing that the law and all that it calls make is longer than what came in: it says more and counts as full. Else prove '..UptoSaid'. A law counts once. -/
mutual
def uptoBulk {H : Type} : DataW H → Nat
  | .lit (.string bytes) => bytes.length + 1
  | .lit _ => 1
  | .nil => 1
  | .ptr d => uptoBulk d + 1
  | .slice elems spare => uptoBulkAll elems + uptoBulkAll spare + 1
  | .agg parts => uptoBulkAll parts + 1
  | .iface _ d => uptoBulk d + 1
  | .map entries => uptoBulkEntries entries + 1
  | .held _ => 1
def uptoBulkAll {H : Type} : List (DataW H) → Nat
  | [] => 0
  | d :: r => uptoBulk d + uptoBulkAll r
def uptoBulkEntries {H : Type} : List (Lit × DataW H) → Nat
  | [] => 0
  | x :: r => uptoBulkEntry x + uptoBulkEntries r
def uptoBulkEntry {H : Type} : Lit × DataW H → Nat
  | (.string bytes, d) => bytes.length + uptoBulk d + 1
  | (_, d) => uptoBulk d + 1
 end
def uptoSmall : (H : Type) → List (DataW H) → Bool := fun _ ds => decide (uptoBulkAll ds ≤ 1048576)
def OpenSpec.upto (s : _root_.Go.ChangeSpec) : _root_.Go.OpenSpec := { _root_.Go.OpenSpec.ofChange s with cond := some uptoSmall }

/-- 'laws.FnExactSetBy', WHERE WHAT IT READS IS OF BULK AT MOST 1048576: true; the input reads as it did. -/
def fnExactSetByUptoRow : OpenClaim := { program := "ytjlnfmiekmliaaa", sum := "8c7e503519a70fb5ea90aef9963fa751df2dd24fe0634b439e64c05b7843b203", func := "loop.example/borrowcheck/laws.FnExactSetBy", spec := "fnExactSetBy", unfollowed := true, recurses := true, loops := true, apart := false, narrowed := true }
def FnExactSetByUptoSaid : Prop := fnExactSetByUptoRow.holds Try.pinned (OpenSpec.upto fnExactSetBySpec)

/-- 'laws.FnExactAlwaysReaches', WHERE WHAT IT READS IS OF BULK AT MOST 1048576: true; the input reads as it did. -/
def fnExactAlwaysReachesUptoRow : OpenClaim := { program := "ytjlnfmiekmliaaa", sum := "8c7e503519a70fb5ea90aef9963fa751df2dd24fe0634b439e64c05b7843b203", func := "loop.example/borrowcheck/laws.FnExactAlwaysReaches", spec := "fnExactAlwaysReaches", unfollowed := true, recurses := true, loops := true, apart := false, narrowed := true }
def FnExactAlwaysReachesUptoSaid : Prop := fnExactAlwaysReachesUptoRow.holds Try.pinned (OpenSpec.upto fnExactAlwaysReachesSpec)

/-- 'laws.FnExactDominates', WHERE WHAT IT READS IS OF BULK AT MOST 1048576: true; the input reads as it did. -/
def fnExactDominatesUptoRow : OpenClaim := { program := "ytjlnfmiekmliaaa", sum := "8c7e503519a70fb5ea90aef9963fa751df2dd24fe0634b439e64c05b7843b203", func := "loop.example/borrowcheck/laws.FnExactDominates", spec := "fnExactDominates", unfollowed := true, recurses := true, loops := true, apart := false, narrowed := true }
def FnExactDominatesUptoSaid : Prop := fnExactDominatesUptoRow.holds Try.pinned (OpenSpec.upto fnExactDominatesSpec)

/-- 'laws.FnExactUseOf', WHERE WHAT IT READS IS OF BULK AT MOST 1048576: true; the input reads as it did. -/
def fnExactUseOfUptoRow : OpenClaim := { program := "ytjlnfmiekmliaaa", sum := "8c7e503519a70fb5ea90aef9963fa751df2dd24fe0634b439e64c05b7843b203", func := "loop.example/borrowcheck/laws.FnExactUseOf", spec := "fnExactUseOf", unfollowed := true, recurses := true, loops := true, apart := false, narrowed := true }
def FnExactUseOfUptoSaid : Prop := fnExactUseOfUptoRow.holds Try.pinned (OpenSpec.upto fnExactUseOfSpec)

/-- 'laws.FnExactLoopOf', WHERE WHAT IT READS IS OF BULK AT MOST 1048576: true; the input reads as it did. -/
def fnExactLoopOfUptoRow : OpenClaim := { program := "ytjlnfmiekmliaaa", sum := "8c7e503519a70fb5ea90aef9963fa751df2dd24fe0634b439e64c05b7843b203", func := "loop.example/borrowcheck/laws.FnExactLoopOf", spec := "fnExactLoopOf", unfollowed := true, recurses := true, loops := true, apart := false, narrowed := true }
def FnExactLoopOfUptoSaid : Prop := fnExactLoopOfUptoRow.holds Try.pinned (OpenSpec.upto fnExactLoopOfSpec)

/-- 'laws.FnExactOutlives', WHERE WHAT IT READS IS OF BULK AT MOST 1048576: true; the input reads as it did. -/
def fnExactOutlivesUptoRow : OpenClaim := { program := "ytjlnfmiekmliaaa", sum := "8c7e503519a70fb5ea90aef9963fa751df2dd24fe0634b439e64c05b7843b203", func := "loop.example/borrowcheck/laws.FnExactOutlives", spec := "fnExactOutlives", unfollowed := true, recurses := true, loops := true, apart := false, narrowed := true }
def FnExactOutlivesUptoSaid : Prop := fnExactOutlivesUptoRow.holds Try.pinned (OpenSpec.upto fnExactOutlivesSpec)

/-- 'laws.FnExactLoansOf', WHERE WHAT IT READS IS OF BULK AT MOST 1048576: true; the input reads as it did. -/
def fnExactLoansOfUptoRow : OpenClaim := { program := "ytjlnfmiekmliaaa", sum := "8c7e503519a70fb5ea90aef9963fa751df2dd24fe0634b439e64c05b7843b203", func := "loop.example/borrowcheck/laws.FnExactLoansOf", spec := "fnExactLoansOf", unfollowed := true, recurses := true, loops := true, apart := false, narrowed := true }
def FnExactLoansOfUptoSaid : Prop := fnExactLoansOfUptoRow.holds Try.pinned (OpenSpec.upto fnExactLoansOfSpec)

/-- 'laws.FnExactDominatorsOf', WHERE WHAT IT READS IS OF BULK AT MOST 1048576: true; the input reads as it did. -/
def fnExactDominatorsOfUptoRow : OpenClaim := { program := "ytjlnfmiekmliaaa", sum := "8c7e503519a70fb5ea90aef9963fa751df2dd24fe0634b439e64c05b7843b203", func := "loop.example/borrowcheck/laws.FnExactDominatorsOf", spec := "fnExactDominatorsOf", unfollowed := true, recurses := true, loops := true, apart := false, narrowed := true }
def FnExactDominatorsOfUptoSaid : Prop := fnExactDominatorsOfUptoRow.holds Try.pinned (OpenSpec.upto fnExactDominatorsOfSpec)

/-- 'laws.FnExactPointsOf', WHERE WHAT IT READS IS OF BULK AT MOST 1048576: true; the input reads as it did. -/
def fnExactPointsOfUptoRow : OpenClaim := { program := "ytjlnfmiekmliaaa", sum := "8c7e503519a70fb5ea90aef9963fa751df2dd24fe0634b439e64c05b7843b203", func := "loop.example/borrowcheck/laws.FnExactPointsOf", spec := "fnExactPointsOf", unfollowed := true, recurses := true, loops := true, apart := false, narrowed := true }
def FnExactPointsOfUptoSaid : Prop := fnExactPointsOfUptoRow.holds Try.pinned (OpenSpec.upto fnExactPointsOfSpec)

/-- 'laws.FnExactPathsTo', WHERE WHAT IT READS IS OF BULK AT MOST 1048576: true; the input reads as it did. -/
def fnExactPathsToUptoRow : OpenClaim := { program := "ytjlnfmiekmliaaa", sum := "8c7e503519a70fb5ea90aef9963fa751df2dd24fe0634b439e64c05b7843b203", func := "loop.example/borrowcheck/laws.FnExactPathsTo", spec := "fnExactPathsTo", unfollowed := true, recurses := true, loops := true, apart := false, narrowed := true }
def FnExactPathsToUptoSaid : Prop := fnExactPathsToUptoRow.holds Try.pinned (OpenSpec.upto fnExactPathsToSpec)

/-- 'laws.FnExactBoundsOf', WHERE WHAT IT READS IS OF BULK AT MOST 1048576: true; the input reads as it did. -/
def fnExactBoundsOfUptoRow : OpenClaim := { program := "ytjlnfmiekmliaaa", sum := "8c7e503519a70fb5ea90aef9963fa751df2dd24fe0634b439e64c05b7843b203", func := "loop.example/borrowcheck/laws.FnExactBoundsOf", spec := "fnExactBoundsOf", unfollowed := true, recurses := true, loops := true, apart := false, narrowed := true }
def FnExactBoundsOfUptoSaid : Prop := fnExactBoundsOfUptoRow.holds Try.pinned (OpenSpec.upto fnExactBoundsOfSpec)

/-- 'laws.FnExactPathsFrom', WHERE WHAT IT READS IS OF BULK AT MOST 1048576: true; the input reads as it did. -/
def fnExactPathsFromUptoRow : OpenClaim := { program := "ytjlnfmiekmliaaa", sum := "8c7e503519a70fb5ea90aef9963fa751df2dd24fe0634b439e64c05b7843b203", func := "loop.example/borrowcheck/laws.FnExactPathsFrom", spec := "fnExactPathsFrom", unfollowed := true, recurses := true, loops := true, apart := false, narrowed := true }
def FnExactPathsFromUptoSaid : Prop := fnExactPathsFromUptoRow.holds Try.pinned (OpenSpec.upto fnExactPathsFromSpec)

end Rows
end Go.Proofs.Ytjlnfmiekmliaaa

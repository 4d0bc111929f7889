/-
  No cell of these rows narrows 'for every input' (looked for: loops, veiled, ifaces, maps, wideKeys, modest, calm, conditions, laid).
  DERIVED. THE GIVEN ROWS OF THIS SEAT. 13 by the template 'for every input the law returns true; each argument reads behind the call as it read before'; 0 by the template 'total and deterministic' (their statements: YtadidppbhpdnkaaTotals.lean).
  GIVEN WITH THE SEED: the statements are not yours to turn. If you find one false, say at which input.
  Laid BY PROGRAM, IN A SANDBOX (cutbox-rows.mjs): the forced cells as the released guide's own fill.sh prints them over the translation 61eaa94354955e86… (all of the seat's roots in one cut). By AI agents, Wed Nov 11 2026. No macro, syntax, notation, axiom, sorry.
-/
import Derived.Test.YtadidppbhpdnkaaChecked
import GoSem.Claim
import GoSem.ClaimJoined
import GoSem.ClaimMapViews
import Derived.JoinedTies
import Derived.KernelRfl
namespace Go.Proofs.Ytadidppbhpdnkaa
/- THE CELL 'sum', in the pinned program and in every row, IS THE sha256 OF THE DUMP (.gsa) THAT YtadidppbhpdnkaaProg.lean LOADS. Nothing in Lean hashes anything: it is a label: what it is worth is what the hold of that sum in a sandbox is worth. -/
noncomputable def Try.pinned : Pinned := { name := "ytadidppbhpdnkaa", sum := "61eaa94354955e86afecf4f44bb3688728acc55840529b19f9cec9dda926b120", checked := Try.checked }
namespace Rows
def none {H : Type} : Left H := { results := [], args := [] }

/-- 'laws.FnDominates': WHATEVER THE INPUT: true; the input reads as it did. -/
def fnDominatesSpec : ChangeSpec := { name := "fnDominates", fn := fun _ => fun
  | [d1, d2] => { results := [.lit (.bool true)], args := [d1, d2] }
  | _ => none }
def fnDominatesRow : OpenClaim := { program := "ytadidppbhpdnkaa", sum := "61eaa94354955e86afecf4f44bb3688728acc55840529b19f9cec9dda926b120", func := "loop.example/borrowcheck/laws.FnDominates", spec := "fnDominates", unfollowed := true, recurses := true, apart := false }
def FnDominatesSaid : Prop := fnDominatesRow.holds Try.pinned (OpenSpec.ofChange fnDominatesSpec)

/-- ITS FALSE NEIGHBOUR: 'it returns false'. Refute it at one input. -/
def fnDominatesWrong : ChangeSpec := { name := "fnDominates", fn := fun _ => fun
  | [d1, d2] => { results := [.lit (.bool false)], args := [d1, d2] }
  | _ => none }
def FnDominatesWrongFalsely : Prop := fnDominatesRow.holds Try.pinned (OpenSpec.ofChange fnDominatesWrong)

/-- 'laws.FnFirstDominates': WHATEVER THE INPUT: true; the input reads as it did. -/
def fnFirstDominatesSpec : ChangeSpec := { name := "fnFirstDominates", fn := fun _ => fun
  | [d] => { results := [.lit (.bool true)], args := [d] }
  | _ => none }
def fnFirstDominatesRow : OpenClaim := { program := "ytadidppbhpdnkaa", sum := "61eaa94354955e86afecf4f44bb3688728acc55840529b19f9cec9dda926b120", func := "loop.example/borrowcheck/laws.FnFirstDominates", spec := "fnFirstDominates", unfollowed := true, recurses := true, apart := false }
def FnFirstDominatesSaid : Prop := fnFirstDominatesRow.holds Try.pinned (OpenSpec.ofChange fnFirstDominatesSpec)

/-- ITS FALSE NEIGHBOUR: 'it returns false'. Refute it at one input. -/
def fnFirstDominatesWrong : ChangeSpec := { name := "fnFirstDominates", fn := fun _ => fun
  | [d] => { results := [.lit (.bool false)], args := [d] }
  | _ => none }
def FnFirstDominatesWrongFalsely : Prop := fnFirstDominatesRow.holds Try.pinned (OpenSpec.ofChange fnFirstDominatesWrong)

/-- 'laws.FnReachesThree': WHATEVER THE INPUT: true; the input reads as it did. -/
def fnReachesThreeSpec : ChangeSpec := { name := "fnReachesThree", fn := fun _ => fun
  | [d] => { results := [.lit (.bool true)], args := [d] }
  | _ => none }
def fnReachesThreeRow : OpenClaim := { program := "ytadidppbhpdnkaa", sum := "61eaa94354955e86afecf4f44bb3688728acc55840529b19f9cec9dda926b120", func := "loop.example/borrowcheck/laws.FnReachesThree", spec := "fnReachesThree", unfollowed := true, recurses := true, apart := false }
def FnReachesThreeSaid : Prop := fnReachesThreeRow.holds Try.pinned (OpenSpec.ofChange fnReachesThreeSpec)

/-- ITS FALSE NEIGHBOUR: 'it returns false'. Refute it at one input. -/
def fnReachesThreeWrong : ChangeSpec := { name := "fnReachesThree", fn := fun _ => fun
  | [d] => { results := [.lit (.bool false)], args := [d] }
  | _ => none }
def FnReachesThreeWrongFalsely : Prop := fnReachesThreeRow.holds Try.pinned (OpenSpec.ofChange fnReachesThreeWrong)

/-- 'laws.FnRunEven': WHATEVER THE INPUT: true; the input reads as it did. -/
def fnRunEvenSpec : ChangeSpec := { name := "fnRunEven", fn := fun _ => fun
  | [d] => { results := [.lit (.bool true)], args := [d] }
  | _ => none }
def fnRunEvenRow : OpenClaim := { program := "ytadidppbhpdnkaa", sum := "61eaa94354955e86afecf4f44bb3688728acc55840529b19f9cec9dda926b120", func := "loop.example/borrowcheck/laws.FnRunEven", spec := "fnRunEven", unfollowed := true, recurses := true, apart := false }
def FnRunEvenSaid : Prop := fnRunEvenRow.holds Try.pinned (OpenSpec.ofChange fnRunEvenSpec)

/-- ITS FALSE NEIGHBOUR: 'it returns false'. Refute it at one input. -/
def fnRunEvenWrong : ChangeSpec := { name := "fnRunEven", fn := fun _ => fun
  | [d] => { results := [.lit (.bool false)], args := [d] }
  | _ => none }
def FnRunEvenWrongFalsely : Prop := fnRunEvenRow.holds Try.pinned (OpenSpec.ofChange fnRunEvenWrong)

/-- 'laws.FnRunPath': WHATEVER THE INPUT: true; the input reads as it did. -/
def fnRunPathSpec : ChangeSpec := { name := "fnRunPath", fn := fun _ => fun
  | [d] => { results := [.lit (.bool true)], args := [d] }
  | _ => none }
def fnRunPathRow : OpenClaim := { program := "ytadidppbhpdnkaa", sum := "61eaa94354955e86afecf4f44bb3688728acc55840529b19f9cec9dda926b120", func := "loop.example/borrowcheck/laws.FnRunPath", spec := "fnRunPath", unfollowed := true, recurses := true, apart := false }
def FnRunPathSaid : Prop := fnRunPathRow.holds Try.pinned (OpenSpec.ofChange fnRunPathSpec)

/-- ITS FALSE NEIGHBOUR: 'it returns false'. Refute it at one input. -/
def fnRunPathWrong : ChangeSpec := { name := "fnRunPath", fn := fun _ => fun
  | [d] => { results := [.lit (.bool false)], args := [d] }
  | _ => none }
def FnRunPathWrongFalsely : Prop := fnRunPathRow.holds Try.pinned (OpenSpec.ofChange fnRunPathWrong)

/-- 'laws.FnLastDominator': WHATEVER THE INPUT: true; the input reads as it did. -/
def fnLastDominatorSpec : ChangeSpec := { name := "fnLastDominator", fn := fun _ => fun
  | [d] => { results := [.lit (.bool true)], args := [d] }
  | _ => none }
def fnLastDominatorRow : OpenClaim := { program := "ytadidppbhpdnkaa", sum := "61eaa94354955e86afecf4f44bb3688728acc55840529b19f9cec9dda926b120", func := "loop.example/borrowcheck/laws.FnLastDominator", spec := "fnLastDominator", unfollowed := true, recurses := true, apart := false }
def FnLastDominatorSaid : Prop := fnLastDominatorRow.holds Try.pinned (OpenSpec.ofChange fnLastDominatorSpec)

/-- ITS FALSE NEIGHBOUR: 'it returns false'. Refute it at one input. -/
def fnLastDominatorWrong : ChangeSpec := { name := "fnLastDominator", fn := fun _ => fun
  | [d] => { results := [.lit (.bool false)], args := [d] }
  | _ => none }
def FnLastDominatorWrongFalsely : Prop := fnLastDominatorRow.holds Try.pinned (OpenSpec.ofChange fnLastDominatorWrong)

/-- 'laws.FnDominatesThree': WHATEVER THE INPUT: true; the input reads as it did. -/
def fnDominatesThreeSpec : ChangeSpec := { name := "fnDominatesThree", fn := fun _ => fun
  | [d] => { results := [.lit (.bool true)], args := [d] }
  | _ => none }
def fnDominatesThreeRow : OpenClaim := { program := "ytadidppbhpdnkaa", sum := "61eaa94354955e86afecf4f44bb3688728acc55840529b19f9cec9dda926b120", func := "loop.example/borrowcheck/laws.FnDominatesThree", spec := "fnDominatesThree", unfollowed := true, recurses := true, apart := false }
def FnDominatesThreeSaid : Prop := fnDominatesThreeRow.holds Try.pinned (OpenSpec.ofChange fnDominatesThreeSpec)

/-- ITS FALSE NEIGHBOUR: 'it returns false'. Refute it at one input. -/
def fnDominatesThreeWrong : ChangeSpec := { name := "fnDominatesThree", fn := fun _ => fun
  | [d] => { results := [.lit (.bool false)], args := [d] }
  | _ => none }
def FnDominatesThreeWrongFalsely : Prop := fnDominatesThreeRow.holds Try.pinned (OpenSpec.ofChange fnDominatesThreeWrong)

/-- 'laws.FnRunLonger': WHATEVER THE INPUT: true; the input reads as it did. -/
def fnRunLongerSpec : ChangeSpec := { name := "fnRunLonger", fn := fun _ => fun
  | [d] => { results := [.lit (.bool true)], args := [d] }
  | _ => none }
def fnRunLongerRow : OpenClaim := { program := "ytadidppbhpdnkaa", sum := "61eaa94354955e86afecf4f44bb3688728acc55840529b19f9cec9dda926b120", func := "loop.example/borrowcheck/laws.FnRunLonger", spec := "fnRunLonger", unfollowed := true, recurses := true, apart := false }
def FnRunLongerSaid : Prop := fnRunLongerRow.holds Try.pinned (OpenSpec.ofChange fnRunLongerSpec)

/-- ITS FALSE NEIGHBOUR: 'it returns false'. Refute it at one input. -/
def fnRunLongerWrong : ChangeSpec := { name := "fnRunLonger", fn := fun _ => fun
  | [d] => { results := [.lit (.bool false)], args := [d] }
  | _ => none }
def FnRunLongerWrongFalsely : Prop := fnRunLongerRow.holds Try.pinned (OpenSpec.ofChange fnRunLongerWrong)

/-- 'laws.FnAlwaysReaches': WHATEVER THE INPUT: true; the input reads as it did. -/
def fnAlwaysReachesSpec : ChangeSpec := { name := "fnAlwaysReaches", fn := fun _ => fun
  | [d1, d2] => { results := [.lit (.bool true)], args := [d1, d2] }
  | _ => none }
def fnAlwaysReachesRow : OpenClaim := { program := "ytadidppbhpdnkaa", sum := "61eaa94354955e86afecf4f44bb3688728acc55840529b19f9cec9dda926b120", func := "loop.example/borrowcheck/laws.FnAlwaysReaches", spec := "fnAlwaysReaches", unfollowed := true, recurses := true, apart := false }
def FnAlwaysReachesSaid : Prop := fnAlwaysReachesRow.holds Try.pinned (OpenSpec.ofChange fnAlwaysReachesSpec)

/-- ITS FALSE NEIGHBOUR: 'it returns false'. Refute it at one input. -/
def fnAlwaysReachesWrong : ChangeSpec := { name := "fnAlwaysReaches", fn := fun _ => fun
  | [d1, d2] => { results := [.lit (.bool false)], args := [d1, d2] }
  | _ => none }
def FnAlwaysReachesWrongFalsely : Prop := fnAlwaysReachesRow.holds Try.pinned (OpenSpec.ofChange fnAlwaysReachesWrong)

/-- 'laws.FnPointsOf': WHATEVER THE INPUT: true; the input reads as it did. -/
def fnPointsOfSpec : ChangeSpec := { name := "fnPointsOf", fn := fun _ => fun
  | [d] => { results := [.lit (.bool true)], args := [d] }
  | _ => none }
def fnPointsOfRow : OpenClaim := { program := "ytadidppbhpdnkaa", sum := "61eaa94354955e86afecf4f44bb3688728acc55840529b19f9cec9dda926b120", func := "loop.example/borrowcheck/laws.FnPointsOf", spec := "fnPointsOf", unfollowed := true, recurses := true, apart := false }
def FnPointsOfSaid : Prop := fnPointsOfRow.holds Try.pinned (OpenSpec.ofChange fnPointsOfSpec)

/-- ITS FALSE NEIGHBOUR: 'it returns false'. Refute it at one input. -/
def fnPointsOfWrong : ChangeSpec := { name := "fnPointsOf", fn := fun _ => fun
  | [d] => { results := [.lit (.bool false)], args := [d] }
  | _ => none }
def FnPointsOfWrongFalsely : Prop := fnPointsOfRow.holds Try.pinned (OpenSpec.ofChange fnPointsOfWrong)

/-- 'laws.FnWayRun': WHATEVER THE INPUT: true; the input reads as it did. -/
def fnWayRunSpec : ChangeSpec := { name := "fnWayRun", fn := fun _ => fun
  | [d] => { results := [.lit (.bool true)], args := [d] }
  | _ => none }
def fnWayRunRow : OpenClaim := { program := "ytadidppbhpdnkaa", sum := "61eaa94354955e86afecf4f44bb3688728acc55840529b19f9cec9dda926b120", func := "loop.example/borrowcheck/laws.FnWayRun", spec := "fnWayRun", unfollowed := true, recurses := true, apart := false }
def FnWayRunSaid : Prop := fnWayRunRow.holds Try.pinned (OpenSpec.ofChange fnWayRunSpec)

/-- ITS FALSE NEIGHBOUR: 'it returns false'. Refute it at one input. -/
def fnWayRunWrong : ChangeSpec := { name := "fnWayRun", fn := fun _ => fun
  | [d] => { results := [.lit (.bool false)], args := [d] }
  | _ => none }
def FnWayRunWrongFalsely : Prop := fnWayRunRow.holds Try.pinned (OpenSpec.ofChange fnWayRunWrong)

/-- 'laws.FnCountChoices': WHATEVER THE INPUT: true; the input reads as it did. -/
def fnCountChoicesSpec : ChangeSpec := { name := "fnCountChoices", fn := fun _ => fun
  | [d] => { results := [.lit (.bool true)], args := [d] }
  | _ => none }
def fnCountChoicesRow : OpenClaim := { program := "ytadidppbhpdnkaa", sum := "61eaa94354955e86afecf4f44bb3688728acc55840529b19f9cec9dda926b120", func := "loop.example/borrowcheck/laws.FnCountChoices", spec := "fnCountChoices", unfollowed := true, recurses := true, apart := false }
def FnCountChoicesSaid : Prop := fnCountChoicesRow.holds Try.pinned (OpenSpec.ofChange fnCountChoicesSpec)

/-- ITS FALSE NEIGHBOUR: 'it returns false'. Refute it at one input. -/
def fnCountChoicesWrong : ChangeSpec := { name := "fnCountChoices", fn := fun _ => fun
  | [d] => { results := [.lit (.bool false)], args := [d] }
  | _ => none }
def FnCountChoicesWrongFalsely : Prop := fnCountChoicesRow.holds Try.pinned (OpenSpec.ofChange fnCountChoicesWrong)

/-- 'laws.FnShortestWay': WHATEVER THE INPUT: true; the input reads as it did. -/
def fnShortestWaySpec : ChangeSpec := { name := "fnShortestWay", fn := fun _ => fun
  | [d] => { results := [.lit (.bool true)], args := [d] }
  | _ => none }
def fnShortestWayRow : OpenClaim := { program := "ytadidppbhpdnkaa", sum := "61eaa94354955e86afecf4f44bb3688728acc55840529b19f9cec9dda926b120", func := "loop.example/borrowcheck/laws.FnShortestWay", spec := "fnShortestWay", unfollowed := true, recurses := true, apart := false }
def FnShortestWaySaid : Prop := fnShortestWayRow.holds Try.pinned (OpenSpec.ofChange fnShortestWaySpec)

/-- ITS FALSE NEIGHBOUR: 'it returns false'. Refute it at one input. -/
def fnShortestWayWrong : ChangeSpec := { name := "fnShortestWay", fn := fun _ => fun
  | [d] => { results := [.lit (.bool false)], args := [d] }
  | _ => none }
def FnShortestWayWrongFalsely : Prop := fnShortestWayRow.holds Try.pinned (OpenSpec.ofChange fnShortestWayWrong)

/- THE SECOND FORM. 'bulk': how many values and letters a reading holds, each counted each time it is reached (what is shared counts as often as it is met; a slice's spare places count too). A statement '..UptoSaid' is the law's where the arguments, and the package variables that the reading takes, are together of bulk at most 1048576: NARROWER than '..Said'. Prove '..Said' where nothing that the law and all that it calls make is longer than what came in: it says more and counts as full. Else prove '..UptoSaid'. A law counts once. -/
mutual
def uptoBulk {H : Type} : DataW H → Nat
  | .lit (.string bytes) => bytes.length + 1
  | .lit _ => 1
  | .nil => 1
  | .ptr d => uptoBulk d + 1
  | .slice elems spare => uptoBulkAll elems + uptoBulkAll spare + 1
  | .agg parts => uptoBulkAll parts + 1
  | .iface _ d => uptoBulk d + 1
  | .map entries => uptoBulkEntries entries + 1
  | .held _ => 1
def uptoBulkAll {H : Type} : List (DataW H) → Nat
  | [] => 0
  | d :: r => uptoBulk d + uptoBulkAll r
def uptoBulkEntries {H : Type} : List (Lit × DataW H) → Nat
  | [] => 0
  | x :: r => uptoBulkEntry x + uptoBulkEntries r
def uptoBulkEntry {H : Type} : Lit × DataW H → Nat
  | (.string bytes, d) => bytes.length + uptoBulk d + 1
  | (_, d) => uptoBulk d + 1
 end
def uptoSmall : (H : Type) → List (DataW H) → Bool := fun _ ds => decide (uptoBulkAll ds ≤ 1048576)
def OpenSpec.upto (s : _root_.Go.ChangeSpec) : _root_.Go.OpenSpec := { _root_.Go.OpenSpec.ofChange s with cond := some uptoSmall }

/-- 'laws.FnDominates', WHERE WHAT IT READS IS OF BULK AT MOST 1048576: true; the input reads as it did. -/
def fnDominatesUptoRow : OpenClaim := { program := "ytadidppbhpdnkaa", sum := "61eaa94354955e86afecf4f44bb3688728acc55840529b19f9cec9dda926b120", func := "loop.example/borrowcheck/laws.FnDominates", spec := "fnDominates", unfollowed := true, recurses := true, apart := false, narrowed := true }
def FnDominatesUptoSaid : Prop := fnDominatesUptoRow.holds Try.pinned (OpenSpec.upto fnDominatesSpec)

/-- 'laws.FnFirstDominates', WHERE WHAT IT READS IS OF BULK AT MOST 1048576: true; the input reads as it did. -/
def fnFirstDominatesUptoRow : OpenClaim := { program := "ytadidppbhpdnkaa", sum := "61eaa94354955e86afecf4f44bb3688728acc55840529b19f9cec9dda926b120", func := "loop.example/borrowcheck/laws.FnFirstDominates", spec := "fnFirstDominates", unfollowed := true, recurses := true, apart := false, narrowed := true }
def FnFirstDominatesUptoSaid : Prop := fnFirstDominatesUptoRow.holds Try.pinned (OpenSpec.upto fnFirstDominatesSpec)

/-- 'laws.FnReachesThree', WHERE WHAT IT READS IS OF BULK AT MOST 1048576: true; the input reads as it did. -/
def fnReachesThreeUptoRow : OpenClaim := { program := "ytadidppbhpdnkaa", sum := "61eaa94354955e86afecf4f44bb3688728acc55840529b19f9cec9dda926b120", func := "loop.example/borrowcheck/laws.FnReachesThree", spec := "fnReachesThree", unfollowed := true, recurses := true, apart := false, narrowed := true }
def FnReachesThreeUptoSaid : Prop := fnReachesThreeUptoRow.holds Try.pinned (OpenSpec.upto fnReachesThreeSpec)

/-- 'laws.FnRunEven', WHERE WHAT IT READS IS OF BULK AT MOST 1048576: true; the input reads as it did. -/
def fnRunEvenUptoRow : OpenClaim := { program := "ytadidppbhpdnkaa", sum := "61eaa94354955e86afecf4f44bb3688728acc55840529b19f9cec9dda926b120", func := "loop.example/borrowcheck/laws.FnRunEven", spec := "fnRunEven", unfollowed := true, recurses := true, apart := false, narrowed := true }
def FnRunEvenUptoSaid : Prop := fnRunEvenUptoRow.holds Try.pinned (OpenSpec.upto fnRunEvenSpec)

/-- 'laws.FnRunPath', WHERE WHAT IT READS IS OF BULK AT MOST 1048576: true; the input reads as it did. -/
def fnRunPathUptoRow : OpenClaim := { program := "ytadidppbhpdnkaa", sum := "61eaa94354955e86afecf4f44bb3688728acc55840529b19f9cec9dda926b120", func := "loop.example/borrowcheck/laws.FnRunPath", spec := "fnRunPath", unfollowed := true, recurses := true, apart := false, narrowed := true }
def FnRunPathUptoSaid : Prop := fnRunPathUptoRow.holds Try.pinned (OpenSpec.upto fnRunPathSpec)

/-- 'laws.FnLastDominator', WHERE WHAT IT READS IS OF BULK AT MOST 1048576: true; the input reads as it did. -/
def fnLastDominatorUptoRow : OpenClaim := { program := "ytadidppbhpdnkaa", sum := "61eaa94354955e86afecf4f44bb3688728acc55840529b19f9cec9dda926b120", func := "loop.example/borrowcheck/laws.FnLastDominator", spec := "fnLastDominator", unfollowed := true, recurses := true, apart := false, narrowed := true }
def FnLastDominatorUptoSaid : Prop := fnLastDominatorUptoRow.holds Try.pinned (OpenSpec.upto fnLastDominatorSpec)

/-- 'laws.FnDominatesThree', WHERE WHAT IT READS IS OF BULK AT MOST 1048576: true; the input reads as it did. -/
def fnDominatesThreeUptoRow : OpenClaim := { program := "ytadidppbhpdnkaa", sum := "61eaa94354955e86afecf4f44bb3688728acc55840529b19f9cec9dda926b120", func := "loop.example/borrowcheck/laws.FnDominatesThree", spec := "fnDominatesThree", unfollowed := true, recurses := true, apart := false, narrowed := true }
def FnDominatesThreeUptoSaid : Prop := fnDominatesThreeUptoRow.holds Try.pinned (OpenSpec.upto fnDominatesThreeSpec)

/-- 'laws.FnRunLonger', WHERE WHAT IT READS IS OF BULK AT MOST 1048576: true; the input reads as it did. -/
def fnRunLongerUptoRow : OpenClaim := { program := "ytadidppbhpdnkaa", sum := "61eaa94354955e86afecf4f44bb3688728acc55840529b19f9cec9dda926b120", func := "loop.example/borrowcheck/laws.FnRunLonger", spec := "fnRunLonger", unfollowed := true, recurses := true, apart := false, narrowed := true }
def FnRunLongerUptoSaid : Prop := fnRunLongerUptoRow.holds Try.pinned (OpenSpec.upto fnRunLongerSpec)

/-- 'laws.FnAlwaysReaches', WHERE WHAT IT READS IS OF BULK AT MOST 1048576: true; the input reads as it did. -/
def fnAlwaysReachesUptoRow : OpenClaim := { program := "ytadidppbhpdnkaa", sum := "61eaa94354955e86afecf4f44bb3688728acc55840529b19f9cec9dda926b120", func := "loop.example/borrowcheck/laws.FnAlwaysReaches", spec := "fnAlwaysReaches", unfollowed := true, recurses := true, apart := false, narrowed := true }
def FnAlwaysReachesUptoSaid : Prop := fnAlwaysReachesUptoRow.holds Try.pinned (OpenSpec.upto fnAlwaysReachesSpec)

/-- 'laws.FnPointsOf', WHERE WHAT IT READS IS OF BULK AT MOST 1048576: true; the input reads as it did. -/
def fnPointsOfUptoRow : OpenClaim := { program := "ytadidppbhpdnkaa", sum := "61eaa94354955e86afecf4f44bb3688728acc55840529b19f9cec9dda926b120", func := "loop.example/borrowcheck/laws.FnPointsOf", spec := "fnPointsOf", unfollowed := true, recurses := true, apart := false, narrowed := true }
def FnPointsOfUptoSaid : Prop := fnPointsOfUptoRow.holds Try.pinned (OpenSpec.upto fnPointsOfSpec)

/-- 'laws.FnWayRun', WHERE WHAT IT READS IS OF BULK AT MOST 1048576: true; the input reads as it did. -/
def fnWayRunUptoRow : OpenClaim := { program := "ytadidppbhpdnkaa", sum := "61eaa94354955e86afecf4f44bb3688728acc55840529b19f9cec9dda926b120", func := "loop.example/borrowcheck/laws.FnWayRun", spec := "fnWayRun", unfollowed := true, recurses := true, apart := false, narrowed := true }
def FnWayRunUptoSaid : Prop := fnWayRunUptoRow.holds Try.pinned (OpenSpec.upto fnWayRunSpec)

/-- 'laws.FnCountChoices', WHERE WHAT IT READS IS OF BULK AT MOST 1048576: true; the input reads as it did. -/
def fnCountChoicesUptoRow : OpenClaim := { program := "ytadidppbhpdnkaa", sum := "61eaa94354955e86afecf4f44bb3688728acc55840529b19f9cec9dda926b120", func := "loop.example/borrowcheck/laws.FnCountChoices", spec := "fnCountChoices", unfollowed := true, recurses := true, apart := false, narrowed := true }
def FnCountChoicesUptoSaid : Prop := fnCountChoicesUptoRow.holds Try.pinned (OpenSpec.upto fnCountChoicesSpec)

/-- 'laws.FnShortestWay', WHERE WHAT IT READS IS OF BULK AT MOST 1048576: true; the input reads as it did. -/
def fnShortestWayUptoRow : OpenClaim := { program := "ytadidppbhpdnkaa", sum := "61eaa94354955e86afecf4f44bb3688728acc55840529b19f9cec9dda926b120", func := "loop.example/borrowcheck/laws.FnShortestWay", spec := "fnShortestWay", unfollowed := true, recurses := true, apart := false, narrowed := true }
def FnShortestWayUptoSaid : Prop := fnShortestWayUptoRow.holds Try.pinned (OpenSpec.upto fnShortestWaySpec)

end Rows
end Go.Proofs.Ytadidppbhpdnkaa

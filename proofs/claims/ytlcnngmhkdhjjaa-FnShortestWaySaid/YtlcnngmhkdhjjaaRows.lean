/-
  No cell of these rows narrows 'for every input' (looked for: loops, veiled, ifaces, maps, wideKeys, modest, calm, conditions, laid).
  DERIVED. THE GIVEN ROWS OF THIS SEAT. 16 by the template 'for every input the law returns true; each argument reads behind the call as it read before'; 0 by the template 'total and deterministic' (their statements: YtlcnngmhkdhjjaaTotals.lean).
  GIVEN WITH THE SEED: the statements are not yours to turn. If you find one false, say at which input.
  Laid BY PROGRAM, IN A SANDBOX (cutbox-rows.mjs): the forced cells as the released guide's own fill.sh prints them over the translation 0e3bec211e1ed4ec… (all of the seat's roots in one cut). By AI agents, Wed Nov 11 2026. No macro, syntax, notation, axiom, sorry.
-/
import Derived.Test.YtlcnngmhkdhjjaaChecked
import GoSem.Claim
import GoSem.ClaimJoined
import GoSem.ClaimMapViews
import Derived.JoinedTies
import Derived.KernelRfl
namespace Go.Proofs.Ytlcnngmhkdhjjaa
/- THE CELL 'sum', in the pinned program and in every row, IS THE sha256 OF THE DUMP (.gsa) THAT YtlcnngmhkdhjjaaProg.lean LOADS. Nothing in Lean hashes anything: it is a label: what it is worth is what the hold of that sum in a sandbox is worth. -/
noncomputable def Try.pinned : Pinned := { name := "ytlcnngmhkdhjjaa", sum := "0e3bec211e1ed4ecf04bb4415ec527865d4d0ef7d97900ebf2d8abb183313af1", checked := Try.checked }
namespace Rows
def none {H : Type} : Left H := { results := [], args := [] }

/-- 'laws.FnLoansOf': WHATEVER THE INPUT: true; the input reads as it did. -/
def fnLoansOfSpec : ChangeSpec := { name := "fnLoansOf", fn := fun _ => fun
  | [d] => { results := [.lit (.bool true)], args := [d] }
  | _ => none }
def fnLoansOfRow : OpenClaim := { program := "ytlcnngmhkdhjjaa", sum := "0e3bec211e1ed4ecf04bb4415ec527865d4d0ef7d97900ebf2d8abb183313af1", func := "loop.example/borrowcheck/laws.FnLoansOf", spec := "fnLoansOf", unfollowed := true, recurses := true, apart := false }
def FnLoansOfSaid : Prop := fnLoansOfRow.holds Try.pinned (OpenSpec.ofChange fnLoansOfSpec)

/-- ITS FALSE NEIGHBOUR: 'it returns false'. Refute it at one input. -/
def fnLoansOfWrong : ChangeSpec := { name := "fnLoansOf", fn := fun _ => fun
  | [d] => { results := [.lit (.bool false)], args := [d] }
  | _ => none }
def FnLoansOfWrongFalsely : Prop := fnLoansOfRow.holds Try.pinned (OpenSpec.ofChange fnLoansOfWrong)

/-- 'laws.FnBoundsOf': WHATEVER THE INPUT: true; the input reads as it did. -/
def fnBoundsOfSpec : ChangeSpec := { name := "fnBoundsOf", fn := fun _ => fun
  | [d] => { results := [.lit (.bool true)], args := [d] }
  | _ => none }
def fnBoundsOfRow : OpenClaim := { program := "ytlcnngmhkdhjjaa", sum := "0e3bec211e1ed4ecf04bb4415ec527865d4d0ef7d97900ebf2d8abb183313af1", func := "loop.example/borrowcheck/laws.FnBoundsOf", spec := "fnBoundsOf", unfollowed := true, recurses := true, apart := false }
def FnBoundsOfSaid : Prop := fnBoundsOfRow.holds Try.pinned (OpenSpec.ofChange fnBoundsOfSpec)

/-- ITS FALSE NEIGHBOUR: 'it returns false'. Refute it at one input. -/
def fnBoundsOfWrong : ChangeSpec := { name := "fnBoundsOf", fn := fun _ => fun
  | [d] => { results := [.lit (.bool false)], args := [d] }
  | _ => none }
def FnBoundsOfWrongFalsely : Prop := fnBoundsOfRow.holds Try.pinned (OpenSpec.ofChange fnBoundsOfWrong)

/-- 'laws.FnAlwaysReaches': WHATEVER THE INPUT: true; the input reads as it did. -/
def fnAlwaysReachesSpec : ChangeSpec := { name := "fnAlwaysReaches", fn := fun _ => fun
  | [d1, d2] => { results := [.lit (.bool true)], args := [d1, d2] }
  | _ => none }
def fnAlwaysReachesRow : OpenClaim := { program := "ytlcnngmhkdhjjaa", sum := "0e3bec211e1ed4ecf04bb4415ec527865d4d0ef7d97900ebf2d8abb183313af1", func := "loop.example/borrowcheck/laws.FnAlwaysReaches", spec := "fnAlwaysReaches", unfollowed := true, recurses := true, apart := false }
def FnAlwaysReachesSaid : Prop := fnAlwaysReachesRow.holds Try.pinned (OpenSpec.ofChange fnAlwaysReachesSpec)

/-- ITS FALSE NEIGHBOUR: 'it returns false'. Refute it at one input. -/
def fnAlwaysReachesWrong : ChangeSpec := { name := "fnAlwaysReaches", fn := fun _ => fun
  | [d1, d2] => { results := [.lit (.bool false)], args := [d1, d2] }
  | _ => none }
def FnAlwaysReachesWrongFalsely : Prop := fnAlwaysReachesRow.holds Try.pinned (OpenSpec.ofChange fnAlwaysReachesWrong)

/-- 'laws.FnDominates': WHATEVER THE INPUT: true; the input reads as it did. -/
def fnDominatesSpec : ChangeSpec := { name := "fnDominates", fn := fun _ => fun
  | [d1, d2] => { results := [.lit (.bool true)], args := [d1, d2] }
  | _ => none }
def fnDominatesRow : OpenClaim := { program := "ytlcnngmhkdhjjaa", sum := "0e3bec211e1ed4ecf04bb4415ec527865d4d0ef7d97900ebf2d8abb183313af1", func := "loop.example/borrowcheck/laws.FnDominates", spec := "fnDominates", unfollowed := true, recurses := true, apart := false }
def FnDominatesSaid : Prop := fnDominatesRow.holds Try.pinned (OpenSpec.ofChange fnDominatesSpec)

/-- ITS FALSE NEIGHBOUR: 'it returns false'. Refute it at one input. -/
def fnDominatesWrong : ChangeSpec := { name := "fnDominates", fn := fun _ => fun
  | [d1, d2] => { results := [.lit (.bool false)], args := [d1, d2] }
  | _ => none }
def FnDominatesWrongFalsely : Prop := fnDominatesRow.holds Try.pinned (OpenSpec.ofChange fnDominatesWrong)

/-- 'laws.FnLastDominator': WHATEVER THE INPUT: true; the input reads as it did. -/
def fnLastDominatorSpec : ChangeSpec := { name := "fnLastDominator", fn := fun _ => fun
  | [d] => { results := [.lit (.bool true)], args := [d] }
  | _ => none }
def fnLastDominatorRow : OpenClaim := { program := "ytlcnngmhkdhjjaa", sum := "0e3bec211e1ed4ecf04bb4415ec527865d4d0ef7d97900ebf2d8abb183313af1", func := "loop.example/borrowcheck/laws.FnLastDominator", spec := "fnLastDominator", unfollowed := true, recurses := true, apart := false }
def FnLastDominatorSaid : Prop := fnLastDominatorRow.holds Try.pinned (OpenSpec.ofChange fnLastDominatorSpec)

/-- ITS FALSE NEIGHBOUR: 'it returns false'. Refute it at one input. -/
def fnLastDominatorWrong : ChangeSpec := { name := "fnLastDominator", fn := fun _ => fun
  | [d] => { results := [.lit (.bool false)], args := [d] }
  | _ => none }
def FnLastDominatorWrongFalsely : Prop := fnLastDominatorRow.holds Try.pinned (OpenSpec.ofChange fnLastDominatorWrong)

/-- 'laws.FnOutlives': WHATEVER THE INPUT: true; the input reads as it did. -/
def fnOutlivesSpec : ChangeSpec := { name := "fnOutlives", fn := fun _ => fun
  | [d] => { results := [.lit (.bool true)], args := [d] }
  | _ => none }
def fnOutlivesRow : OpenClaim := { program := "ytlcnngmhkdhjjaa", sum := "0e3bec211e1ed4ecf04bb4415ec527865d4d0ef7d97900ebf2d8abb183313af1", func := "loop.example/borrowcheck/laws.FnOutlives", spec := "fnOutlives", unfollowed := true, recurses := true, apart := false }
def FnOutlivesSaid : Prop := fnOutlivesRow.holds Try.pinned (OpenSpec.ofChange fnOutlivesSpec)

/-- ITS FALSE NEIGHBOUR: 'it returns false'. Refute it at one input. -/
def fnOutlivesWrong : ChangeSpec := { name := "fnOutlives", fn := fun _ => fun
  | [d] => { results := [.lit (.bool false)], args := [d] }
  | _ => none }
def FnOutlivesWrongFalsely : Prop := fnOutlivesRow.holds Try.pinned (OpenSpec.ofChange fnOutlivesWrong)

/-- 'laws.FnOutliveSelf': WHATEVER THE INPUT: true; the input reads as it did. -/
def fnOutliveSelfSpec : ChangeSpec := { name := "fnOutliveSelf", fn := fun _ => fun
  | [d] => { results := [.lit (.bool true)], args := [d] }
  | _ => none }
def fnOutliveSelfRow : OpenClaim := { program := "ytlcnngmhkdhjjaa", sum := "0e3bec211e1ed4ecf04bb4415ec527865d4d0ef7d97900ebf2d8abb183313af1", func := "loop.example/borrowcheck/laws.FnOutliveSelf", spec := "fnOutliveSelf", unfollowed := true, recurses := true, apart := false }
def FnOutliveSelfSaid : Prop := fnOutliveSelfRow.holds Try.pinned (OpenSpec.ofChange fnOutliveSelfSpec)

/-- ITS FALSE NEIGHBOUR: 'it returns false'. Refute it at one input. -/
def fnOutliveSelfWrong : ChangeSpec := { name := "fnOutliveSelf", fn := fun _ => fun
  | [d] => { results := [.lit (.bool false)], args := [d] }
  | _ => none }
def FnOutliveSelfWrongFalsely : Prop := fnOutliveSelfRow.holds Try.pinned (OpenSpec.ofChange fnOutliveSelfWrong)

/-- 'laws.FnRegionLoans': WHATEVER THE INPUT: true; the input reads as it did. -/
def fnRegionLoansSpec : ChangeSpec := { name := "fnRegionLoans", fn := fun _ => fun
  | [d] => { results := [.lit (.bool true)], args := [d] }
  | _ => none }
def fnRegionLoansRow : OpenClaim := { program := "ytlcnngmhkdhjjaa", sum := "0e3bec211e1ed4ecf04bb4415ec527865d4d0ef7d97900ebf2d8abb183313af1", func := "loop.example/borrowcheck/laws.FnRegionLoans", spec := "fnRegionLoans", unfollowed := true, recurses := true, apart := false }
def FnRegionLoansSaid : Prop := fnRegionLoansRow.holds Try.pinned (OpenSpec.ofChange fnRegionLoansSpec)

/-- ITS FALSE NEIGHBOUR: 'it returns false'. Refute it at one input. -/
def fnRegionLoansWrong : ChangeSpec := { name := "fnRegionLoans", fn := fun _ => fun
  | [d] => { results := [.lit (.bool false)], args := [d] }
  | _ => none }
def FnRegionLoansWrongFalsely : Prop := fnRegionLoansRow.holds Try.pinned (OpenSpec.ofChange fnRegionLoansWrong)

/-- 'laws.FnRunEven': WHATEVER THE INPUT: true; the input reads as it did. -/
def fnRunEvenSpec : ChangeSpec := { name := "fnRunEven", fn := fun _ => fun
  | [d] => { results := [.lit (.bool true)], args := [d] }
  | _ => none }
def fnRunEvenRow : OpenClaim := { program := "ytlcnngmhkdhjjaa", sum := "0e3bec211e1ed4ecf04bb4415ec527865d4d0ef7d97900ebf2d8abb183313af1", func := "loop.example/borrowcheck/laws.FnRunEven", spec := "fnRunEven", unfollowed := true, recurses := true, apart := false }
def FnRunEvenSaid : Prop := fnRunEvenRow.holds Try.pinned (OpenSpec.ofChange fnRunEvenSpec)

/-- ITS FALSE NEIGHBOUR: 'it returns false'. Refute it at one input. -/
def fnRunEvenWrong : ChangeSpec := { name := "fnRunEven", fn := fun _ => fun
  | [d] => { results := [.lit (.bool false)], args := [d] }
  | _ => none }
def FnRunEvenWrongFalsely : Prop := fnRunEvenRow.holds Try.pinned (OpenSpec.ofChange fnRunEvenWrong)

/-- 'laws.FnRunLonger': WHATEVER THE INPUT: true; the input reads as it did. -/
def fnRunLongerSpec : ChangeSpec := { name := "fnRunLonger", fn := fun _ => fun
  | [d] => { results := [.lit (.bool true)], args := [d] }
  | _ => none }
def fnRunLongerRow : OpenClaim := { program := "ytlcnngmhkdhjjaa", sum := "0e3bec211e1ed4ecf04bb4415ec527865d4d0ef7d97900ebf2d8abb183313af1", func := "loop.example/borrowcheck/laws.FnRunLonger", spec := "fnRunLonger", unfollowed := true, recurses := true, apart := false }
def FnRunLongerSaid : Prop := fnRunLongerRow.holds Try.pinned (OpenSpec.ofChange fnRunLongerSpec)

/-- ITS FALSE NEIGHBOUR: 'it returns false'. Refute it at one input. -/
def fnRunLongerWrong : ChangeSpec := { name := "fnRunLonger", fn := fun _ => fun
  | [d] => { results := [.lit (.bool false)], args := [d] }
  | _ => none }
def FnRunLongerWrongFalsely : Prop := fnRunLongerRow.holds Try.pinned (OpenSpec.ofChange fnRunLongerWrong)

/-- 'laws.FnCountChoices': WHATEVER THE INPUT: true; the input reads as it did. -/
def fnCountChoicesSpec : ChangeSpec := { name := "fnCountChoices", fn := fun _ => fun
  | [d] => { results := [.lit (.bool true)], args := [d] }
  | _ => none }
def fnCountChoicesRow : OpenClaim := { program := "ytlcnngmhkdhjjaa", sum := "0e3bec211e1ed4ecf04bb4415ec527865d4d0ef7d97900ebf2d8abb183313af1", func := "loop.example/borrowcheck/laws.FnCountChoices", spec := "fnCountChoices", unfollowed := true, recurses := true, apart := false }
def FnCountChoicesSaid : Prop := fnCountChoicesRow.holds Try.pinned (OpenSpec.ofChange fnCountChoicesSpec)

/-- ITS FALSE NEIGHBOUR: 'it returns false'. Refute it at one input. -/
def fnCountChoicesWrong : ChangeSpec := { name := "fnCountChoices", fn := fun _ => fun
  | [d] => { results := [.lit (.bool false)], args := [d] }
  | _ => none }
def FnCountChoicesWrongFalsely : Prop := fnCountChoicesRow.holds Try.pinned (OpenSpec.ofChange fnCountChoicesWrong)

/-- 'laws.FnRunPath': WHATEVER THE INPUT: true; the input reads as it did. -/
def fnRunPathSpec : ChangeSpec := { name := "fnRunPath", fn := fun _ => fun
  | [d] => { results := [.lit (.bool true)], args := [d] }
  | _ => none }
def fnRunPathRow : OpenClaim := { program := "ytlcnngmhkdhjjaa", sum := "0e3bec211e1ed4ecf04bb4415ec527865d4d0ef7d97900ebf2d8abb183313af1", func := "loop.example/borrowcheck/laws.FnRunPath", spec := "fnRunPath", unfollowed := true, recurses := true, apart := false }
def FnRunPathSaid : Prop := fnRunPathRow.holds Try.pinned (OpenSpec.ofChange fnRunPathSpec)

/-- ITS FALSE NEIGHBOUR: 'it returns false'. Refute it at one input. -/
def fnRunPathWrong : ChangeSpec := { name := "fnRunPath", fn := fun _ => fun
  | [d] => { results := [.lit (.bool false)], args := [d] }
  | _ => none }
def FnRunPathWrongFalsely : Prop := fnRunPathRow.holds Try.pinned (OpenSpec.ofChange fnRunPathWrong)

/-- 'laws.FnShortestWay': WHATEVER THE INPUT: true; the input reads as it did. -/
def fnShortestWaySpec : ChangeSpec := { name := "fnShortestWay", fn := fun _ => fun
  | [d] => { results := [.lit (.bool true)], args := [d] }
  | _ => none }
def fnShortestWayRow : OpenClaim := { program := "ytlcnngmhkdhjjaa", sum := "0e3bec211e1ed4ecf04bb4415ec527865d4d0ef7d97900ebf2d8abb183313af1", func := "loop.example/borrowcheck/laws.FnShortestWay", spec := "fnShortestWay", unfollowed := true, recurses := true, apart := false }
def FnShortestWaySaid : Prop := fnShortestWayRow.holds Try.pinned (OpenSpec.ofChange fnShortestWaySpec)

/-- ITS FALSE NEIGHBOUR: 'it returns false'. Refute it at one input. -/
def fnShortestWayWrong : ChangeSpec := { name := "fnShortestWay", fn := fun _ => fun
  | [d] => { results := [.lit (.bool false)], args := [d] }
  | _ => none }
def FnShortestWayWrongFalsely : Prop := fnShortestWayRow.holds Try.pinned (OpenSpec.ofChange fnShortestWayWrong)

/-- 'laws.FnWayRun': WHATEVER THE INPUT: true; the input reads as it did. -/
def fnWayRunSpec : ChangeSpec := { name := "fnWayRun", fn := fun _ => fun
  | [d] => { results := [.lit (.bool true)], args := [d] }
  | _ => none }
def fnWayRunRow : OpenClaim := { program := "ytlcnngmhkdhjjaa", sum := "0e3bec211e1ed4ecf04bb4415ec527865d4d0ef7d97900ebf2d8abb183313af1", func := "loop.example/borrowcheck/laws.FnWayRun", spec := "fnWayRun", unfollowed := true, recurses := true, apart := false }
def FnWayRunSaid : Prop := fnWayRunRow.holds Try.pinned (OpenSpec.ofChange fnWayRunSpec)

/-- ITS FALSE NEIGHBOUR: 'it returns false'. Refute it at one input. -/
def fnWayRunWrong : ChangeSpec := { name := "fnWayRun", fn := fun _ => fun
  | [d] => { results := [.lit (.bool false)], args := [d] }
  | _ => none }
def FnWayRunWrongFalsely : Prop := fnWayRunRow.holds Try.pinned (OpenSpec.ofChange fnWayRunWrong)

/-- 'laws.FnForwardCount': WHATEVER THE INPUT: true; the input reads as it did. -/
def fnForwardCountSpec : ChangeSpec := { name := "fnForwardCount", fn := fun _ => fun
  | [d] => { results := [.lit (.bool true)], args := [d] }
  | _ => none }
def fnForwardCountRow : OpenClaim := { program := "ytlcnngmhkdhjjaa", sum := "0e3bec211e1ed4ecf04bb4415ec527865d4d0ef7d97900ebf2d8abb183313af1", func := "loop.example/borrowcheck/laws.FnForwardCount", spec := "fnForwardCount", unfollowed := true, recurses := true, apart := false }
def FnForwardCountSaid : Prop := fnForwardCountRow.holds Try.pinned (OpenSpec.ofChange fnForwardCountSpec)

/-- ITS FALSE NEIGHBOUR: 'it returns false'. Refute it at one input. -/
def fnForwardCountWrong : ChangeSpec := { name := "fnForwardCount", fn := fun _ => fun
  | [d] => { results := [.lit (.bool false)], args := [d] }
  | _ => none }
def FnForwardCountWrongFalsely : Prop := fnForwardCountRow.holds Try.pinned (OpenSpec.ofChange fnForwardCountWrong)

/-- 'laws.FnUnrollCount': WHATEVER THE INPUT: true; the input reads as it did. -/
def fnUnrollCountSpec : ChangeSpec := { name := "fnUnrollCount", fn := fun _ => fun
  | [d] => { results := [.lit (.bool true)], args := [d] }
  | _ => none }
def fnUnrollCountRow : OpenClaim := { program := "ytlcnngmhkdhjjaa", sum := "0e3bec211e1ed4ecf04bb4415ec527865d4d0ef7d97900ebf2d8abb183313af1", func := "loop.example/borrowcheck/laws.FnUnrollCount", spec := "fnUnrollCount", unfollowed := true, recurses := true, apart := false }
def FnUnrollCountSaid : Prop := fnUnrollCountRow.holds Try.pinned (OpenSpec.ofChange fnUnrollCountSpec)

/-- ITS FALSE NEIGHBOUR: 'it returns false'. Refute it at one input. -/
def fnUnrollCountWrong : ChangeSpec := { name := "fnUnrollCount", fn := fun _ => fun
  | [d] => { results := [.lit (.bool false)], args := [d] }
  | _ => none }
def FnUnrollCountWrongFalsely : Prop := fnUnrollCountRow.holds Try.pinned (OpenSpec.ofChange fnUnrollCountWrong)

/- THE SECOND FORM. 'bulk': how many values and letters a reading holds, each counted each time it is reached (what is shared counts as often as it is met; a slice's spare places count too). A statement '..UptoSaid' is the law's where the arguments, and the package variables that the reading takes, are together of bulk at most 1048576: NARROWER than '..Said'. Prove '..Said' where nothing that the law and all that it calls make is longer than what came in: it says more and counts as full. Else prove '..UptoSaid'. A law counts once. -/
mutual
def uptoBulk {H : Type} : DataW H → Nat
  | .lit (.string bytes) => bytes.length + 1
  | .lit _ => 1
  | .nil => 1
  | .ptr d => uptoBulk d + 1
  | .slice elems spare => uptoBulkAll elems + uptoBulkAll spare + 1
  | .agg parts => uptoBulkAll parts + 1
  | .iface _ d => uptoBulk d + 1
  | .map entries => uptoBulkEntries entries + 1
  | .held _ => 1
def uptoBulkAll {H : Type} : List (DataW H) → Nat
  | [] => 0
  | d :: r => uptoBulk d + uptoBulkAll r
def uptoBulkEntries {H : Type} : List (Lit × DataW H) → Nat
  | [] => 0
  | x :: r => uptoBulkEntry x + uptoBulkEntries r
def uptoBulkEntry {H : Type} : Lit × DataW H → Nat
  | (.string bytes, d) => bytes.length + uptoBulk d + 1
  | (_, d) => uptoBulk d + 1
 end
def uptoSmall : (H : Type) → List (DataW H) → Bool := fun _ ds => decide (uptoBulkAll ds ≤ 1048576)
def OpenSpec.upto (s : _root_.Go.ChangeSpec) : _root_.Go.OpenSpec := { _root_.Go.OpenSpec.ofChange s with cond := some uptoSmall }

/-- 'laws.FnLoansOf', WHERE WHAT IT READS IS OF BULK AT MOST 1048576: true; the input reads as it did. -/
def fnLoansOfUptoRow : OpenClaim := { program := "ytlcnngmhkdhjjaa", sum := "0e3bec211e1ed4ecf04bb4415ec527865d4d0ef7d97900ebf2d8abb183313af1", func := "loop.example/borrowcheck/laws.FnLoansOf", spec := "fnLoansOf", unfollowed := true, recurses := true, apart := false, narrowed := true }
def FnLoansOfUptoSaid : Prop := fnLoansOfUptoRow.holds Try.pinned (OpenSpec.upto fnLoansOfSpec)

/-- 'laws.FnBoundsOf', WHERE WHAT IT READS IS OF BULK AT MOST 1048576: true; the input reads as it did. -/
def fnBoundsOfUptoRow : OpenClaim := { program := "ytlcnngmhkdhjjaa", sum := "0e3bec211e1ed4ecf04bb4415ec527865d4d0ef7d97900ebf2d8abb183313af1", func := "loop.example/borrowcheck/laws.FnBoundsOf", spec := "fnBoundsOf", unfollowed := true, recurses := true, apart := false, narrowed := true }
def FnBoundsOfUptoSaid : Prop := fnBoundsOfUptoRow.holds Try.pinned (OpenSpec.upto fnBoundsOfSpec)

/-- 'laws.FnAlwaysReaches', WHERE WHAT IT READS IS OF BULK AT MOST 1048576: true; the input reads as it did. -/
def fnAlwaysReachesUptoRow : OpenClaim := { program := "ytlcnngmhkdhjjaa", sum := "0e3bec211e1ed4ecf04bb4415ec527865d4d0ef7d97900ebf2d8abb183313af1", func := "loop.example/borrowcheck/laws.FnAlwaysReaches", spec := "fnAlwaysReaches", unfollowed := true, recurses := true, apart := false, narrowed := true }
def FnAlwaysReachesUptoSaid : Prop := fnAlwaysReachesUptoRow.holds Try.pinned (OpenSpec.upto fnAlwaysReachesSpec)

/-- 'laws.FnDominates', WHERE WHAT IT READS IS OF BULK AT MOST 1048576: true; the input reads as it did. -/
def fnDominatesUptoRow : OpenClaim := { program := "ytlcnngmhkdhjjaa", sum := "0e3bec211e1ed4ecf04bb4415ec527865d4d0ef7d97900ebf2d8abb183313af1", func := "loop.example/borrowcheck/laws.FnDominates", spec := "fnDominates", unfollowed := true, recurses := true, apart := false, narrowed := true }
def FnDominatesUptoSaid : Prop := fnDominatesUptoRow.holds Try.pinned (OpenSpec.upto fnDominatesSpec)

/-- 'laws.FnLastDominator', WHERE WHAT IT READS IS OF BULK AT MOST 1048576: true; the input reads as it did. -/
def fnLastDominatorUptoRow : OpenClaim := { program := "ytlcnngmhkdhjjaa", sum := "0e3bec211e1ed4ecf04bb4415ec527865d4d0ef7d97900ebf2d8abb183313af1", func := "loop.example/borrowcheck/laws.FnLastDominator", spec := "fnLastDominator", unfollowed := true, recurses := true, apart := false, narrowed := true }
def FnLastDominatorUptoSaid : Prop := fnLastDominatorUptoRow.holds Try.pinned (OpenSpec.upto fnLastDominatorSpec)

/-- 'laws.FnOutlives', WHERE WHAT IT READS IS OF BULK AT MOST 1048576: true; the input reads as it did. -/
def fnOutlivesUptoRow : OpenClaim := { program := "ytlcnngmhkdhjjaa", sum := "0e3bec211e1ed4ecf04bb4415ec527865d4d0ef7d97900ebf2d8abb183313af1", func := "loop.example/borrowcheck/laws.FnOutlives", spec := "fnOutlives", unfollowed := true, recurses := true, apart := false, narrowed := true }
def FnOutlivesUptoSaid : Prop := fnOutlivesUptoRow.holds Try.pinned (OpenSpec.upto fnOutlivesSpec)

/-- 'laws.FnOutliveSelf', WHERE WHAT IT READS IS OF BULK AT MOST 1048576: true; the input reads as it did. -/
def fnOutliveSelfUptoRow : OpenClaim := { program := "ytlcnngmhkdhjjaa", sum := "0e3bec211e1ed4ecf04bb4415ec527865d4d0ef7d97900ebf2d8abb183313af1", func := "loop.example/borrowcheck/laws.FnOutliveSelf", spec := "fnOutliveSelf", unfollowed := true, recurses := true, apart := false, narrowed := true }
def FnOutliveSelfUptoSaid : Prop := fnOutliveSelfUptoRow.holds Try.pinned (OpenSpec.upto fnOutliveSelfSpec)

/-- 'laws.FnRegionLoans', WHERE WHAT IT READS IS OF BULK AT MOST 1048576: true; the input reads as it did. -/
def fnRegionLoansUptoRow : OpenClaim := { program := "ytlcnngmhkdhjjaa", sum := "0e3bec211e1ed4ecf04bb4415ec527865d4d0ef7d97900ebf2d8abb183313af1", func := "loop.example/borrowcheck/laws.FnRegionLoans", spec := "fnRegionLoans", unfollowed := true, recurses := true, apart := false, narrowed := true }
def FnRegionLoansUptoSaid : Prop := fnRegionLoansUptoRow.holds Try.pinned (OpenSpec.upto fnRegionLoansSpec)

/-- 'laws.FnRunEven', WHERE WHAT IT READS IS OF BULK AT MOST 1048576: true; the input reads as it did. -/
def fnRunEvenUptoRow : OpenClaim := { program := "ytlcnngmhkdhjjaa", sum := "0e3bec211e1ed4ecf04bb4415ec527865d4d0ef7d97900ebf2d8abb183313af1", func := "loop.example/borrowcheck/laws.FnRunEven", spec := "fnRunEven", unfollowed := true, recurses := true, apart := false, narrowed := true }
def FnRunEvenUptoSaid : Prop := fnRunEvenUptoRow.holds Try.pinned (OpenSpec.upto fnRunEvenSpec)

/-- 'laws.FnRunLonger', WHERE WHAT IT READS IS OF BULK AT MOST 1048576: true; the input reads as it did. -/
def fnRunLongerUptoRow : OpenClaim := { program := "ytlcnngmhkdhjjaa", sum := "0e3bec211e1ed4ecf04bb4415ec527865d4d0ef7d97900ebf2d8abb183313af1", func := "loop.example/borrowcheck/laws.FnRunLonger", spec := "fnRunLonger", unfollowed := true, recurses := true, apart := false, narrowed := true }
def FnRunLongerUptoSaid : Prop := fnRunLongerUptoRow.holds Try.pinned (OpenSpec.upto fnRunLongerSpec)

/-- 'laws.FnCountChoices', WHERE WHAT IT READS IS OF BULK AT MOST 1048576: true; the input reads as it did. -/
def fnCountChoicesUptoRow : OpenClaim := { program := "ytlcnngmhkdhjjaa", sum := "0e3bec211e1ed4ecf04bb4415ec527865d4d0ef7d97900ebf2d8abb183313af1", func := "loop.example/borrowcheck/laws.FnCountChoices", spec := "fnCountChoices", unfollowed := true, recurses := true, apart := false, narrowed := true }
def FnCountChoicesUptoSaid : Prop := fnCountChoicesUptoRow.holds Try.pinned (OpenSpec.upto fnCountChoicesSpec)

/-- 'laws.FnRunPath', WHERE WHAT IT READS IS OF BULK AT MOST 1048576: true; the input reads as it did. -/
def fnRunPathUptoRow : OpenClaim := { program := "ytlcnngmhkdhjjaa", sum := "0e3bec211e1ed4ecf04bb4415ec527865d4d0ef7d97900ebf2d8abb183313af1", func := "loop.example/borrowcheck/laws.FnRunPath", spec := "fnRunPath", unfollowed := true, recurses := true, apart := false, narrowed := true }
def FnRunPathUptoSaid : Prop := fnRunPathUptoRow.holds Try.pinned (OpenSpec.upto fnRunPathSpec)

/-- 'laws.FnShortestWay', WHERE WHAT IT READS IS OF BULK AT MOST 1048576: true; the input reads as it did. -/
def fnShortestWayUptoRow : OpenClaim := { program := "ytlcnngmhkdhjjaa", sum := "0e3bec211e1ed4ecf04bb4415ec527865d4d0ef7d97900ebf2d8abb183313af1", func := "loop.example/borrowcheck/laws.FnShortestWay", spec := "fnShortestWay", unfollowed := true, recurses := true, apart := false, narrowed := true }
def FnShortestWayUptoSaid : Prop := fnShortestWayUptoRow.holds Try.pinned (OpenSpec.upto fnShortestWaySpec)

/-- 'laws.FnWayRun', WHERE WHAT IT READS IS OF BULK AT MOST 1048576: true; the input reads as it did. -/
def fnWayRunUptoRow : OpenClaim := { program := "ytlcnngmhkdhjjaa", sum := "0e3bec211e1ed4ecf04bb4415ec527865d4d0ef7d97900ebf2d8abb183313af1", func := "loop.example/borrowcheck/laws.FnWayRun", spec := "fnWayRun", unfollowed := true, recurses := true, apart := false, narrowed := true }
def FnWayRunUptoSaid : Prop := fnWayRunUptoRow.holds Try.pinned (OpenSpec.upto fnWayRunSpec)

/-- 'laws.FnForwardCount', WHERE WHAT IT READS IS OF BULK AT MOST 1048576: true; the input reads as it did. -/
def fnForwardCountUptoRow : OpenClaim := { program := "ytlcnngmhkdhjjaa", sum := "0e3bec211e1ed4ecf04bb4415ec527865d4d0ef7d97900ebf2d8abb183313af1", func := "loop.example/borrowcheck/laws.FnForwardCount", spec := "fnForwardCount", unfollowed := true, recurses := true, apart := false, narrowed := true }
def FnForwardCountUptoSaid : Prop := fnForwardCountUptoRow.holds Try.pinned (OpenSpec.upto fnForwardCountSpec)

/-- 'laws.FnUnrollCount', WHERE WHAT IT READS IS OF BULK AT MOST 1048576: true; the input reads as it did. -/
def fnUnrollCountUptoRow : OpenClaim := { program := "ytlcnngmhkdhjjaa", sum := "0e3bec211e1ed4ecf04bb4415ec527865d4d0ef7d97900ebf2d8abb183313af1", func := "loop.example/borrowcheck/laws.FnUnrollCount", spec := "fnUnrollCount", unfollowed := true, recurses := true, apart := false, narrowed := true }
def FnUnrollCountUptoSaid : Prop := fnUnrollCountUptoRow.holds Try.pinned (OpenSpec.upto fnUnrollCountSpec)

end Rows
end Go.Proofs.Ytlcnngmhkdhjjaa

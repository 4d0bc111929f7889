/-
  NARROWER THAN 'FOR EVERY INPUT', by the rows' own cells (each row's printed sentence says how): FnExactOutlives: loops · FnExactWayChoices: loops · FnExactPointsOf: loops · FnExactRunPath: loops · FnExactLastDominator: loops · FnExactBoundsHold: loops · FnExactShortWay: loops · FnExactRegionOf: loops · FnExactTakesOf: loops · FnExactNeedsOf: loops · FnExactLiveAfter: loops · FnExactMayAlias: loops.
  DERIVED. THE GIVEN ROWS OF THIS SEAT. 14 by the template 'for every input the law returns true; each argument reads behind the call as it read before'; 0 by the template 'total and deterministic' (their statements: YtdnhinkjmjpnnaaTotals.lean).
  GIVEN WITH THE SEED: the statements are not yours to turn. If you find one false, say at which input.
  Laid BY PROGRAM, IN A SANDBOX (cutbox-rows.mjs): the forced cells as the released guide's own fill.sh prints them over the translation c0fbb636892aecfb… (all of the seat's roots in one cut). By AI agents, Wed Nov 11 2026. No macro, syntax, notation, axiom, sorry.
-/
import Derived.Test.YtdnhinkjmjpnnaaChecked
import GoSem.Claim
import GoSem.ClaimJoined
import GoSem.ClaimMapViews
import Derived.JoinedTies
import Derived.KernelRfl
namespace Go.Proofs.Ytdnhinkjmjpnnaa
/- THE CELL 'sum', in the pinned program and in every row, IS THE sha256 OF THE DUMP (.gsa) THAT YtdnhinkjmjpnnaaProg.lean LOADS. Nothing in Lean hashes anything: it is a label: what it is worth is what the hold of that sum in a sandbox is worth. -/
noncomputable def Try.pinned : Pinned := { name := "ytdnhinkjmjpnnaa", sum := "c0fbb636892aecfb98c2c0c156f5cba3c7810604c04ba235d61209d8e2e6a71b", checked := Try.checked }
namespace Rows
def none {H : Type} : Left H := { results := [], args := [] }

/-- 'laws.FnExactOutlives': WHATEVER THE INPUT: true; the input reads as it did. -/
def fnExactOutlivesSpec : ChangeSpec := { name := "fnExactOutlives", fn := fun _ => fun
  | [d1, d2, d3] => { results := [.lit (.bool true)], args := [d1, d2, d3] }
  | _ => none }
def fnExactOutlivesRow : OpenClaim := { program := "ytdnhinkjmjpnnaa", sum := "c0fbb636892aecfb98c2c0c156f5cba3c7810604c04ba235d61209d8e2e6a71b", func := "loop.example/borrowcheck/laws.FnExactOutlives", spec := "fnExactOutlives", unfollowed := true, recurses := true, loops := true, apart := false }
def FnExactOutlivesSaid : Prop := fnExactOutlivesRow.holds Try.pinned (OpenSpec.ofChange fnExactOutlivesSpec)

/-- ITS FALSE NEIGHBOUR: 'it returns false'. Refute it at one input. -/
def fnExactOutlivesWrong : ChangeSpec := { name := "fnExactOutlives", fn := fun _ => fun
  | [d1, d2, d3] => { results := [.lit (.bool false)], args := [d1, d2, d3] }
  | _ => none }
def FnExactOutlivesWrongFalsely : Prop := fnExactOutlivesRow.holds Try.pinned (OpenSpec.ofChange fnExactOutlivesWrong)

/-- 'laws.FnExactWayChoices': WHATEVER THE INPUT: true; the input reads as it did. -/
def fnExactWayChoicesSpec : ChangeSpec := { name := "fnExactWayChoices", fn := fun _ => fun
  | [d1, d2] => { results := [.lit (.bool true)], args := [d1, d2] }
  | _ => none }
def fnExactWayChoicesRow : OpenClaim := { program := "ytdnhinkjmjpnnaa", sum := "c0fbb636892aecfb98c2c0c156f5cba3c7810604c04ba235d61209d8e2e6a71b", func := "loop.example/borrowcheck/laws.FnExactWayChoices", spec := "fnExactWayChoices", unfollowed := true, recurses := true, loops := true, apart := false }
def FnExactWayChoicesSaid : Prop := fnExactWayChoicesRow.holds Try.pinned (OpenSpec.ofChange fnExactWayChoicesSpec)

/-- ITS FALSE NEIGHBOUR: 'it returns false'. Refute it at one input. -/
def fnExactWayChoicesWrong : ChangeSpec := { name := "fnExactWayChoices", fn := fun _ => fun
  | [d1, d2] => { results := [.lit (.bool false)], args := [d1, d2] }
  | _ => none }
def FnExactWayChoicesWrongFalsely : Prop := fnExactWayChoicesRow.holds Try.pinned (OpenSpec.ofChange fnExactWayChoicesWrong)

/-- 'laws.FnExactPointsOf': WHATEVER THE INPUT: true; the input reads as it did. -/
def fnExactPointsOfSpec : ChangeSpec := { name := "fnExactPointsOf", fn := fun _ => fun
  | [d] => { results := [.lit (.bool true)], args := [d] }
  | _ => none }
def fnExactPointsOfRow : OpenClaim := { program := "ytdnhinkjmjpnnaa", sum := "c0fbb636892aecfb98c2c0c156f5cba3c7810604c04ba235d61209d8e2e6a71b", func := "loop.example/borrowcheck/laws.FnExactPointsOf", spec := "fnExactPointsOf", unfollowed := true, recurses := true, loops := true, apart := false }
def FnExactPointsOfSaid : Prop := fnExactPointsOfRow.holds Try.pinned (OpenSpec.ofChange fnExactPointsOfSpec)

/-- ITS FALSE NEIGHBOUR: 'it returns false'. Refute it at one input. -/
def fnExactPointsOfWrong : ChangeSpec := { name := "fnExactPointsOf", fn := fun _ => fun
  | [d] => { results := [.lit (.bool false)], args := [d] }
  | _ => none }
def FnExactPointsOfWrongFalsely : Prop := fnExactPointsOfRow.holds Try.pinned (OpenSpec.ofChange fnExactPointsOfWrong)

/-- 'laws.FnExactRunPath': WHATEVER THE INPUT: true; the input reads as it did. -/
def fnExactRunPathSpec : ChangeSpec := { name := "fnExactRunPath", fn := fun _ => fun
  | [d1, d2, d3] => { results := [.lit (.bool true)], args := [d1, d2, d3] }
  | _ => none }
def fnExactRunPathRow : OpenClaim := { program := "ytdnhinkjmjpnnaa", sum := "c0fbb636892aecfb98c2c0c156f5cba3c7810604c04ba235d61209d8e2e6a71b", func := "loop.example/borrowcheck/laws.FnExactRunPath", spec := "fnExactRunPath", unfollowed := true, recurses := true, loops := true, apart := false }
def FnExactRunPathSaid : Prop := fnExactRunPathRow.holds Try.pinned (OpenSpec.ofChange fnExactRunPathSpec)

/-- ITS FALSE NEIGHBOUR: 'it returns false'. Refute it at one input. -/
def fnExactRunPathWrong : ChangeSpec := { name := "fnExactRunPath", fn := fun _ => fun
  | [d1, d2, d3] => { results := [.lit (.bool false)], args := [d1, d2, d3] }
  | _ => none }
def FnExactRunPathWrongFalsely : Prop := fnExactRunPathRow.holds Try.pinned (OpenSpec.ofChange fnExactRunPathWrong)

/-- 'laws.FnExactLastDominator': WHATEVER THE INPUT: true; the input reads as it did. -/
def fnExactLastDominatorSpec : ChangeSpec := { name := "fnExactLastDominator", fn := fun _ => fun
  | [d1, d2] => { results := [.lit (.bool true)], args := [d1, d2] }
  | _ => none }
def fnExactLastDominatorRow : OpenClaim := { program := "ytdnhinkjmjpnnaa", sum := "c0fbb636892aecfb98c2c0c156f5cba3c7810604c04ba235d61209d8e2e6a71b", func := "loop.example/borrowcheck/laws.FnExactLastDominator", spec := "fnExactLastDominator", unfollowed := true, recurses := true, loops := true, apart := false }
def FnExactLastDominatorSaid : Prop := fnExactLastDominatorRow.holds Try.pinned (OpenSpec.ofChange fnExactLastDominatorSpec)

/-- ITS FALSE NEIGHBOUR: 'it returns false'. Refute it at one input. -/
def fnExactLastDominatorWrong : ChangeSpec := { name := "fnExactLastDominator", fn := fun _ => fun
  | [d1, d2] => { results := [.lit (.bool false)], args := [d1, d2] }
  | _ => none }
def FnExactLastDominatorWrongFalsely : Prop := fnExactLastDominatorRow.holds Try.pinned (OpenSpec.ofChange fnExactLastDominatorWrong)

/-- 'laws.FnExactBoundsHold': WHATEVER THE INPUT: true; the input reads as it did. -/
def fnExactBoundsHoldSpec : ChangeSpec := { name := "fnExactBoundsHold", fn := fun _ => fun
  | [d1, d2] => { results := [.lit (.bool true)], args := [d1, d2] }
  | _ => none }
def fnExactBoundsHoldRow : OpenClaim := { program := "ytdnhinkjmjpnnaa", sum := "c0fbb636892aecfb98c2c0c156f5cba3c7810604c04ba235d61209d8e2e6a71b", func := "loop.example/borrowcheck/laws.FnExactBoundsHold", spec := "fnExactBoundsHold", unfollowed := true, recurses := true, loops := true, apart := false }
def FnExactBoundsHoldSaid : Prop := fnExactBoundsHoldRow.holds Try.pinned (OpenSpec.ofChange fnExactBoundsHoldSpec)

/-- ITS FALSE NEIGHBOUR: 'it returns false'. Refute it at one input. -/
def fnExactBoundsHoldWrong : ChangeSpec := { name := "fnExactBoundsHold", fn := fun _ => fun
  | [d1, d2] => { results := [.lit (.bool false)], args := [d1, d2] }
  | _ => none }
def FnExactBoundsHoldWrongFalsely : Prop := fnExactBoundsHoldRow.holds Try.pinned (OpenSpec.ofChange fnExactBoundsHoldWrong)

/-- 'laws.FnExactShortWay': WHATEVER THE INPUT: true; the input reads as it did. -/
def fnExactShortWaySpec : ChangeSpec := { name := "fnExactShortWay", fn := fun _ => fun
  | [d1, d2, d3] => { results := [.lit (.bool true)], args := [d1, d2, d3] }
  | _ => none }
def fnExactShortWayRow : OpenClaim := { program := "ytdnhinkjmjpnnaa", sum := "c0fbb636892aecfb98c2c0c156f5cba3c7810604c04ba235d61209d8e2e6a71b", func := "loop.example/borrowcheck/laws.FnExactShortWay", spec := "fnExactShortWay", unfollowed := true, recurses := true, loops := true, apart := false }
def FnExactShortWaySaid : Prop := fnExactShortWayRow.holds Try.pinned (OpenSpec.ofChange fnExactShortWaySpec)

/-- ITS FALSE NEIGHBOUR: 'it returns false'. Refute it at one input. -/
def fnExactShortWayWrong : ChangeSpec := { name := "fnExactShortWay", fn := fun _ => fun
  | [d1, d2, d3] => { results := [.lit (.bool false)], args := [d1, d2, d3] }
  | _ => none }
def FnExactShortWayWrongFalsely : Prop := fnExactShortWayRow.holds Try.pinned (OpenSpec.ofChange fnExactShortWayWrong)

/-- 'laws.FnExactRegionOf': WHATEVER THE INPUT: true; the input reads as it did. -/
def fnExactRegionOfSpec : ChangeSpec := { name := "fnExactRegionOf", fn := fun _ => fun
  | [d1, d2] => { results := [.lit (.bool true)], args := [d1, d2] }
  | _ => none }
def fnExactRegionOfRow : OpenClaim := { program := "ytdnhinkjmjpnnaa", sum := "c0fbb636892aecfb98c2c0c156f5cba3c7810604c04ba235d61209d8e2e6a71b", func := "loop.example/borrowcheck/laws.FnExactRegionOf", spec := "fnExactRegionOf", unfollowed := true, recurses := true, loops := true, apart := false }
def FnExactRegionOfSaid : Prop := fnExactRegionOfRow.holds Try.pinned (OpenSpec.ofChange fnExactRegionOfSpec)

/-- ITS FALSE NEIGHBOUR: 'it returns false'. Refute it at one input. -/
def fnExactRegionOfWrong : ChangeSpec := { name := "fnExactRegionOf", fn := fun _ => fun
  | [d1, d2] => { results := [.lit (.bool false)], args := [d1, d2] }
  | _ => none }
def FnExactRegionOfWrongFalsely : Prop := fnExactRegionOfRow.holds Try.pinned (OpenSpec.ofChange fnExactRegionOfWrong)

/-- 'laws.FnExactTakesOf': WHATEVER THE INPUT: true; the input reads as it did. -/
def fnExactTakesOfSpec : ChangeSpec := { name := "fnExactTakesOf", fn := fun _ => fun
  | [d] => { results := [.lit (.bool true)], args := [d] }
  | _ => none }
def fnExactTakesOfRow : OpenClaim := { program := "ytdnhinkjmjpnnaa", sum := "c0fbb636892aecfb98c2c0c156f5cba3c7810604c04ba235d61209d8e2e6a71b", func := "loop.example/borrowcheck/laws.FnExactTakesOf", spec := "fnExactTakesOf", unfollowed := true, recurses := true, loops := true, apart := false }
def FnExactTakesOfSaid : Prop := fnExactTakesOfRow.holds Try.pinned (OpenSpec.ofChange fnExactTakesOfSpec)

/-- ITS FALSE NEIGHBOUR: 'it returns false'. Refute it at one input. -/
def fnExactTakesOfWrong : ChangeSpec := { name := "fnExactTakesOf", fn := fun _ => fun
  | [d] => { results := [.lit (.bool false)], args := [d] }
  | _ => none }
def FnExactTakesOfWrongFalsely : Prop := fnExactTakesOfRow.holds Try.pinned (OpenSpec.ofChange fnExactTakesOfWrong)

/-- 'laws.FnExactNeedsOf': WHATEVER THE INPUT: true; the input reads as it did. -/
def fnExactNeedsOfSpec : ChangeSpec := { name := "fnExactNeedsOf", fn := fun _ => fun
  | [d] => { results := [.lit (.bool true)], args := [d] }
  | _ => none }
def fnExactNeedsOfRow : OpenClaim := { program := "ytdnhinkjmjpnnaa", sum := "c0fbb636892aecfb98c2c0c156f5cba3c7810604c04ba235d61209d8e2e6a71b", func := "loop.example/borrowcheck/laws.FnExactNeedsOf", spec := "fnExactNeedsOf", unfollowed := true, recurses := true, loops := true, apart := false }
def FnExactNeedsOfSaid : Prop := fnExactNeedsOfRow.holds Try.pinned (OpenSpec.ofChange fnExactNeedsOfSpec)

/-- ITS FALSE NEIGHBOUR: 'it returns false'. Refute it at one input. -/
def fnExactNeedsOfWrong : ChangeSpec := { name := "fnExactNeedsOf", fn := fun _ => fun
  | [d] => { results := [.lit (.bool false)], args := [d] }
  | _ => none }
def FnExactNeedsOfWrongFalsely : Prop := fnExactNeedsOfRow.holds Try.pinned (OpenSpec.ofChange fnExactNeedsOfWrong)

/-- 'laws.FnExactLiveAfter': WHATEVER THE INPUT: true; the input reads as it did. -/
def fnExactLiveAfterSpec : ChangeSpec := { name := "fnExactLiveAfter", fn := fun _ => fun
  | [d1, d2] => { results := [.lit (.bool true)], args := [d1, d2] }
  | _ => none }
def fnExactLiveAfterRow : OpenClaim := { program := "ytdnhinkjmjpnnaa", sum := "c0fbb636892aecfb98c2c0c156f5cba3c7810604c04ba235d61209d8e2e6a71b", func := "loop.example/borrowcheck/laws.FnExactLiveAfter", spec := "fnExactLiveAfter", unfollowed := true, recurses := true, loops := true, apart := false }
def FnExactLiveAfterSaid : Prop := fnExactLiveAfterRow.holds Try.pinned (OpenSpec.ofChange fnExactLiveAfterSpec)

/-- ITS FALSE NEIGHBOUR: 'it returns false'. Refute it at one input. -/
def fnExactLiveAfterWrong : ChangeSpec := { name := "fnExactLiveAfter", fn := fun _ => fun
  | [d1, d2] => { results := [.lit (.bool false)], args := [d1, d2] }
  | _ => none }
def FnExactLiveAfterWrongFalsely : Prop := fnExactLiveAfterRow.holds Try.pinned (OpenSpec.ofChange fnExactLiveAfterWrong)

/-- 'laws.FnExactMayAlias': WHATEVER THE INPUT: true; the input reads as it did. -/
def fnExactMayAliasSpec : ChangeSpec := { name := "fnExactMayAlias", fn := fun _ => fun
  | [d1, d2, d3, d4] => { results := [.lit (.bool true)], args := [d1, d2, d3, d4] }
  | _ => none }
def fnExactMayAliasRow : OpenClaim := { program := "ytdnhinkjmjpnnaa", sum := "c0fbb636892aecfb98c2c0c156f5cba3c7810604c04ba235d61209d8e2e6a71b", func := "loop.example/borrowcheck/laws.FnExactMayAlias", spec := "fnExactMayAlias", unfollowed := true, recurses := true, loops := true, apart := false }
def FnExactMayAliasSaid : Prop := fnExactMayAliasRow.holds Try.pinned (OpenSpec.ofChange fnExactMayAliasSpec)

/-- ITS FALSE NEIGHBOUR: 'it returns false'. Refute it at one input. -/
def fnExactMayAliasWrong : ChangeSpec := { name := "fnExactMayAlias", fn := fun _ => fun
  | [d1, d2, d3, d4] => { results := [.lit (.bool false)], args := [d1, d2, d3, d4] }
  | _ => none }
def FnExactMayAliasWrongFalsely : Prop := fnExactMayAliasRow.holds Try.pinned (OpenSpec.ofChange fnExactMayAliasWrong)

/-- 'laws.FnForwardCount': WHATEVER THE INPUT: true; the input reads as it did. -/
def fnForwardCountSpec : ChangeSpec := { name := "fnForwardCount", fn := fun _ => fun
  | [d] => { results := [.lit (.bool true)], args := [d] }
  | _ => none }
def fnForwardCountRow : OpenClaim := { program := "ytdnhinkjmjpnnaa", sum := "c0fbb636892aecfb98c2c0c156f5cba3c7810604c04ba235d61209d8e2e6a71b", func := "loop.example/borrowcheck/laws.FnForwardCount", spec := "fnForwardCount", unfollowed := true, recurses := true, apart := false }
def FnForwardCountSaid : Prop := fnForwardCountRow.holds Try.pinned (OpenSpec.ofChange fnForwardCountSpec)

/-- ITS FALSE NEIGHBOUR: 'it returns false'. Refute it at one input. -/
def fnForwardCountWrong : ChangeSpec := { name := "fnForwardCount", fn := fun _ => fun
  | [d] => { results := [.lit (.bool false)], args := [d] }
  | _ => none }
def FnForwardCountWrongFalsely : Prop := fnForwardCountRow.holds Try.pinned (OpenSpec.ofChange fnForwardCountWrong)

/-- 'laws.FnUnrollCount': WHATEVER THE INPUT: true; the input reads as it did. -/
def fnUnrollCountSpec : ChangeSpec := { name := "fnUnrollCount", fn := fun _ => fun
  | [d] => { results := [.lit (.bool true)], args := [d] }
  | _ => none }
def fnUnrollCountRow : OpenClaim := { program := "ytdnhinkjmjpnnaa", sum := "c0fbb636892aecfb98c2c0c156f5cba3c7810604c04ba235d61209d8e2e6a71b", func := "loop.example/borrowcheck/laws.FnUnrollCount", spec := "fnUnrollCount", unfollowed := true, recurses := true, apart := false }
def FnUnrollCountSaid : Prop := fnUnrollCountRow.holds Try.pinned (OpenSpec.ofChange fnUnrollCountSpec)

/-- ITS FALSE NEIGHBOUR: 'it returns false'. Refute it at one input. -/
def fnUnrollCountWrong : ChangeSpec := { name := "fnUnrollCount", fn := fun _ => fun
  | [d] => { results := [.lit (.bool false)], args := [d] }
  | _ => none }
def FnUnrollCountWrongFalsely : Prop := fnUnrollCountRow.holds Try.pinned (OpenSpec.ofChange fnUnrollCountWrong)

/- THE SECOND FORM. 'bulk': how many values and letters a reading holds, each counted each time it is reached (what is shared counts as often as it is met; a slice's spare places count too). A statement '..UptoSaid' is the law's where the arguments, and the package variables that the reading takes, are together of bulk at most 1048576: NARROWER than '..Said'. Prove '..Said' where nothing that the law and all that it calls make is longer than what came in: it says more and counts as full. Else prove '..UptoSaid'. A law counts once. -/
mutual
def uptoBulk {H : Type} : DataW H → Nat
  | .lit (.string bytes) => bytes.length + 1
  | .lit _ => 1
  | .nil => 1
  | .ptr d => uptoBulk d + 1
  | .slice elems spare => uptoBulkAll elems + uptoBulkAll spare + 1
  | .agg parts => uptoBulkAll parts + 1
  | .iface _ d => uptoBulk d + 1
  | .map entries => uptoBulkEntries entries + 1
  | .held _ => 1
def uptoBulkAll {H : Type} : List (DataW H) → Nat
  | [] => 0
  | d :: r => uptoBulk d + uptoBulkAll r
def uptoBulkEntries {H : Type} : List (Lit × DataW H) → Nat
  | [] => 0
  | x :: r => uptoBulkEntry x + uptoBulkEntries r
def uptoBulkEntry {H : Type} : Lit × DataW H → Nat
  | (.string bytes, d) => bytes.length + uptoBulk d + 1
  | (_, d) => uptoBulk d + 1
 end
def uptoSmall : (H : Type) → List (DataW H) → Bool := fun _ ds => decide (uptoBulkAll ds ≤ 1048576)
def OpenSpec.upto (s : _root_.Go.ChangeSpec) : _root_.Go.OpenSpec := { _root_.Go.OpenSpec.ofChange s with cond := some uptoSmall }

/-- 'laws.FnExactOutlives', WHERE WHAT IT READS IS OF BULK AT MOST 1048576: true; the input reads as it did. -/
def fnExactOutlivesUptoRow : OpenClaim := { program := "ytdnhinkjmjpnnaa", sum := "c0fbb636892aecfb98c2c0c156f5cba3c7810604c04ba235d61209d8e2e6a71b", func := "loop.example/borrowcheck/laws.FnExactOutlives", spec := "fnExactOutlives", unfollowed := true, recurses := true, loops := true, apart := false, narrowed := true }
def FnExactOutlivesUptoSaid : Prop := fnExactOutlivesUptoRow.holds Try.pinned (OpenSpec.upto fnExactOutlivesSpec)

/-- 'laws.FnExactWayChoices', WHERE WHAT IT READS IS OF BULK AT MOST 1048576: true; the input reads as it did. -/
def fnExactWayChoicesUptoRow : OpenClaim := { program := "ytdnhinkjmjpnnaa", sum := "c0fbb636892aecfb98c2c0c156f5cba3c7810604c04ba235d61209d8e2e6a71b", func := "loop.example/borrowcheck/laws.FnExactWayChoices", spec := "fnExactWayChoices", unfollowed := true, recurses := true, loops := true, apart := false, narrowed := true }
def FnExactWayChoicesUptoSaid : Prop := fnExactWayChoicesUptoRow.holds Try.pinned (OpenSpec.upto fnExactWayChoicesSpec)

/-- 'laws.FnExactPointsOf', WHERE WHAT IT READS IS OF BULK AT MOST 1048576: true; the input reads as it did. -/
def fnExactPointsOfUptoRow : OpenClaim := { program := "ytdnhinkjmjpnnaa", sum := "c0fbb636892aecfb98c2c0c156f5cba3c7810604c04ba235d61209d8e2e6a71b", func := "loop.example/borrowcheck/laws.FnExactPointsOf", spec := "fnExactPointsOf", unfollowed := true, recurses := true, loops := true, apart := false, narrowed := true }
def FnExactPointsOfUptoSaid : Prop := fnExactPointsOfUptoRow.holds Try.pinned (OpenSpec.upto fnExactPointsOfSpec)

/-- 'laws.FnExactRunPath', WHERE WHAT IT READS IS OF BULK AT MOST 1048576: true; the input reads as it did. -/
def fnExactRunPathUptoRow : OpenClaim := { program := "ytdnhinkjmjpnnaa", sum := "c0fbb636892aecfb98c2c0c156f5cba3c7810604c04ba235d61209d8e2e6a71b", func := "loop.example/borrowcheck/laws.FnExactRunPath", spec := "fnExactRunPath", unfollowed := true, recurses := true, loops := true, apart := false, narrowed := true }
def FnExactRunPathUptoSaid : Prop := fnExactRunPathUptoRow.holds Try.pinned (OpenSpec.upto fnExactRunPathSpec)

/-- 'laws.FnExactLastDominator', WHERE WHAT IT READS IS OF BULK AT MOST 1048576: true; the input reads as it did. -/
def fnExactLastDominatorUptoRow : OpenClaim := { program := "ytdnhinkjmjpnnaa", sum := "c0fbb636892aecfb98c2c0c156f5cba3c7810604c04ba235d61209d8e2e6a71b", func := "loop.example/borrowcheck/laws.FnExactLastDominator", spec := "fnExactLastDominator", unfollowed := true, recurses := true, loops := true, apart := false, narrowed := true }
def FnExactLastDominatorUptoSaid : Prop := fnExactLastDominatorUptoRow.holds Try.pinned (OpenSpec.upto fnExactLastDominatorSpec)

/-- 'laws.FnExactBoundsHold', WHERE WHAT IT READS IS OF BULK AT MOST 1048576: true; the input reads as it did. -/
def fnExactBoundsHoldUptoRow : OpenClaim := { program := "ytdnhinkjmjpnnaa", sum := "c0fbb636892aecfb98c2c0c156f5cba3c7810604c04ba235d61209d8e2e6a71b", func := "loop.example/borrowcheck/laws.FnExactBoundsHold", spec := "fnExactBoundsHold", unfollowed := true, recurses := true, loops := true, apart := false, narrowed := true }
def FnExactBoundsHoldUptoSaid : Prop := fnExactBoundsHoldUptoRow.holds Try.pinned (OpenSpec.upto fnExactBoundsHoldSpec)

/-- 'laws.FnExactShortWay', WHERE WHAT IT READS IS OF BULK AT MOST 1048576: true; the input reads as it did. -/
def fnExactShortWayUptoRow : OpenClaim := { program := "ytdnhinkjmjpnnaa", sum := "c0fbb636892aecfb98c2c0c156f5cba3c7810604c04ba235d61209d8e2e6a71b", func := "loop.example/borrowcheck/laws.FnExactShortWay", spec := "fnExactShortWay", unfollowed := true, recurses := true, loops := true, apart := false, narrowed := true }
def FnExactShortWayUptoSaid : Prop := fnExactShortWayUptoRow.holds Try.pinned (OpenSpec.upto fnExactShortWaySpec)

/-- 'laws.FnExactRegionOf', WHERE WHAT IT READS IS OF BULK AT MOST 1048576: true; the input reads as it did. -/
def fnExactRegionOfUptoRow : OpenClaim := { program := "ytdnhinkjmjpnnaa", sum := "c0fbb636892aecfb98c2c0c156f5cba3c7810604c04ba235d61209d8e2e6a71b", func := "loop.example/borrowcheck/laws.FnExactRegionOf", spec := "fnExactRegionOf", unfollowed := true, recurses := true, loops := true, apart := false, narrowed := true }
def FnExactRegionOfUptoSaid : Prop := fnExactRegionOfUptoRow.holds Try.pinned (OpenSpec.upto fnExactRegionOfSpec)

/-- 'laws.FnExactTakesOf', WHERE WHAT IT READS IS OF BULK AT MOST 1048576: true; the input reads as it did. -/
def fnExactTakesOfUptoRow : OpenClaim := { program := "ytdnhinkjmjpnnaa", sum := "c0fbb636892aecfb98c2c0c156f5cba3c7810604c04ba235d61209d8e2e6a71b", func := "loop.example/borrowcheck/laws.FnExactTakesOf", spec := "fnExactTakesOf", unfollowed := true, recurses := true, loops := true, apart := false, narrowed := true }
def FnExactTakesOfUptoSaid : Prop := fnExactTakesOfUptoRow.holds Try.pinned (OpenSpec.upto fnExactTakesOfSpec)

/-- 'laws.FnExactNeedsOf', WHERE WHAT IT READS IS OF BULK AT MOST 1048576: true; the input reads as it did. -/
def fnExactNeedsOfUptoRow : OpenClaim := { program := "ytdnhinkjmjpnnaa", sum := "c0fbb636892aecfb98c2c0c156f5cba3c7810604c04ba235d61209d8e2e6a71b", func := "loop.example/borrowcheck/laws.FnExactNeedsOf", spec := "fnExactNeedsOf", unfollowed := true, recurses := true, loops := true, apart := false, narrowed := true }
def FnExactNeedsOfUptoSaid : Prop := fnExactNeedsOfUptoRow.holds Try.pinned (OpenSpec.upto fnExactNeedsOfSpec)

/-- 'laws.FnExactLiveAfter', WHERE WHAT IT READS IS OF BULK AT MOST 1048576: true; the input reads as it did. -/
def fnExactLiveAfterUptoRow : OpenClaim := { program := "ytdnhinkjmjpnnaa", sum := "c0fbb636892aecfb98c2c0c156f5cba3c7810604c04ba235d61209d8e2e6a71b", func := "loop.example/borrowcheck/laws.FnExactLiveAfter", spec := "fnExactLiveAfter", unfollowed := true, recurses := true, loops := true, apart := false, narrowed := true }
def FnExactLiveAfterUptoSaid : Prop := fnExactLiveAfterUptoRow.holds Try.pinned (OpenSpec.upto fnExactLiveAfterSpec)

/-- 'laws.FnExactMayAlias', WHERE WHAT IT READS IS OF BULK AT MOST 1048576: true; the input reads as it did. -/
def fnExactMayAliasUptoRow : OpenClaim := { program := "ytdnhinkjmjpnnaa", sum := "c0fbb636892aecfb98c2c0c156f5cba3c7810604c04ba235d61209d8e2e6a71b", func := "loop.example/borrowcheck/laws.FnExactMayAlias", spec := "fnExactMayAlias", unfollowed := true, recurses := true, loops := true, apart := false, narrowed := true }
def FnExactMayAliasUptoSaid : Prop := fnExactMayAliasUptoRow.holds Try.pinned (OpenSpec.upto fnExactMayAliasSpec)

/-- 'laws.FnForwardCount', WHERE WHAT IT READS IS OF BULK AT MOST 1048576: true; the input reads as it did. -/
def fnForwardCountUptoRow : OpenClaim := { program := "ytdnhinkjmjpnnaa", sum := "c0fbb636892aecfb98c2c0c156f5cba3c7810604c04ba235d61209d8e2e6a71b", func := "loop.example/borrowcheck/laws.FnForwardCount", spec := "fnForwardCount", unfollowed := true, recurses := true, apart := false, narrowed := true }
def FnForwardCountUptoSaid : Prop := fnForwardCountUptoRow.holds Try.pinned (OpenSpec.upto fnForwardCountSpec)

/-- 'laws.FnUnrollCount', WHERE WHAT IT READS IS OF BULK AT MOST 1048576: true; the input reads as it did. -/
def fnUnrollCountUptoRow : OpenClaim := { program := "ytdnhinkjmjpnnaa", sum := "c0fbb636892aecfb98c2c0c156f5cba3c7810604c04ba235d61209d8e2e6a71b", func := "loop.example/borrowcheck/laws.FnUnrollCount", spec := "fnUnrollCount", unfollowed := true, recurses := true, apart := false, narrowed := true }
def FnUnrollCountUptoSaid : Prop := fnUnrollCountUptoRow.holds Try.pinned (OpenSpec.upto fnUnrollCountSpec)

end Rows
end Go.Proofs.Ytdnhinkjmjpnnaa

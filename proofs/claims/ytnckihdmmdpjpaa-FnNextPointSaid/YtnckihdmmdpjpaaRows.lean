/-
  NARROWER THAN 'FOR EVERY INPUT', by the rows' own cells (each row's printed sentence says how): FnExactTakesOf: loops.
  DERIVED. THE GIVEN ROWS OF THIS SEAT. 15 by the template 'for every input the law returns true; each argument reads behind the call as it read before'; 0 by the template 'total and deterministic' (their statements: YtnckihdmmdpjpaaTotals.lean).
  GIVEN WITH THE SEED: the statements are not yours to turn. If you find one false, say at which input.
  Laid BY PROGRAM, IN A SANDBOX (cutbox-rows.mjs): the forced cells as the released guide's own fill.sh prints them over the translation 65b5b6562a5be994… (all of the seat's roots in one cut). By AI agents, Wed Nov 11 2026. No macro, syntax, notation, axiom, sorry.
-/
import Derived.Test.YtnckihdmmdpjpaaChecked
import GoSem.Claim
import GoSem.ClaimJoined
import GoSem.ClaimMapViews
import Derived.JoinedTies
import Derived.KernelRfl
namespace Go.Proofs.Ytnckihdmmdpjpaa
/- THE CELL 'sum', in the pinned program and in every row, IS THE sha256 OF THE DUMP (.gsa) THAT YtnckihdmmdpjpaaProg.lean LOADS. Nothing in Lean hashes anything: it is a label: what it is worth is what the hold of that sum in a sandbox is worth. -/
noncomputable def Try.pinned : Pinned := { name := "ytnckihdmmdpjpaa", sum := "65b5b6562a5be99492db864b1a6d3d0c8209982c11dac87ae6375321b5975219", checked := Try.checked }
namespace Rows
def none {H : Type} : Left H := { results := [], args := [] }

/-- 'laws.FnPathsTo': WHATEVER THE INPUT: true; the input reads as it did. -/
def fnPathsToSpec : ChangeSpec := { name := "fnPathsTo", fn := fun _ => fun
  | [d] => { results := [.lit (.bool true)], args := [d] }
  | _ => none }
def fnPathsToRow : OpenClaim := { program := "ytnckihdmmdpjpaa", sum := "65b5b6562a5be99492db864b1a6d3d0c8209982c11dac87ae6375321b5975219", func := "loop.example/borrowcheck/laws.FnPathsTo", spec := "fnPathsTo", unfollowed := true, recurses := true, apart := false }
def FnPathsToSaid : Prop := fnPathsToRow.holds Try.pinned (OpenSpec.ofChange fnPathsToSpec)

/-- ITS FALSE NEIGHBOUR: 'it returns false'. Refute it at one input. -/
def fnPathsToWrong : ChangeSpec := { name := "fnPathsTo", fn := fun _ => fun
  | [d] => { results := [.lit (.bool false)], args := [d] }
  | _ => none }
def FnPathsToWrongFalsely : Prop := fnPathsToRow.holds Try.pinned (OpenSpec.ofChange fnPathsToWrong)

/-- 'laws.FnNextPoint': WHATEVER THE INPUT: true; the input reads as it did. -/
def fnNextPointSpec : ChangeSpec := { name := "fnNextPoint", fn := fun _ => fun
  | [d] => { results := [.lit (.bool true)], args := [d] }
  | _ => none }
def fnNextPointRow : OpenClaim := { program := "ytnckihdmmdpjpaa", sum := "65b5b6562a5be99492db864b1a6d3d0c8209982c11dac87ae6375321b5975219", func := "loop.example/borrowcheck/laws.FnNextPoint", spec := "fnNextPoint", unfollowed := true, recurses := true, apart := false }
def FnNextPointSaid : Prop := fnNextPointRow.holds Try.pinned (OpenSpec.ofChange fnNextPointSpec)

/-- ITS FALSE NEIGHBOUR: 'it returns false'. Refute it at one input. -/
def fnNextPointWrong : ChangeSpec := { name := "fnNextPoint", fn := fun _ => fun
  | [d] => { results := [.lit (.bool false)], args := [d] }
  | _ => none }
def FnNextPointWrongFalsely : Prop := fnNextPointRow.holds Try.pinned (OpenSpec.ofChange fnNextPointWrong)

/-- 'laws.FnPointsOf': WHATEVER THE INPUT: true; the input reads as it did. -/
def fnPointsOfSpec : ChangeSpec := { name := "fnPointsOf", fn := fun _ => fun
  | [d] => { results := [.lit (.bool true)], args := [d] }
  | _ => none }
def fnPointsOfRow : OpenClaim := { program := "ytnckihdmmdpjpaa", sum := "65b5b6562a5be99492db864b1a6d3d0c8209982c11dac87ae6375321b5975219", func := "loop.example/borrowcheck/laws.FnPointsOf", spec := "fnPointsOf", unfollowed := true, recurses := true, apart := false }
def FnPointsOfSaid : Prop := fnPointsOfRow.holds Try.pinned (OpenSpec.ofChange fnPointsOfSpec)

/-- ITS FALSE NEIGHBOUR: 'it returns false'. Refute it at one input. -/
def fnPointsOfWrong : ChangeSpec := { name := "fnPointsOf", fn := fun _ => fun
  | [d] => { results := [.lit (.bool false)], args := [d] }
  | _ => none }
def FnPointsOfWrongFalsely : Prop := fnPointsOfRow.holds Try.pinned (OpenSpec.ofChange fnPointsOfWrong)

/-- 'laws.FnLoopBounds': WHATEVER THE INPUT: true; the input reads as it did. -/
def fnLoopBoundsSpec : ChangeSpec := { name := "fnLoopBounds", fn := fun _ => fun
  | [d] => { results := [.lit (.bool true)], args := [d] }
  | _ => none }
def fnLoopBoundsRow : OpenClaim := { program := "ytnckihdmmdpjpaa", sum := "65b5b6562a5be99492db864b1a6d3d0c8209982c11dac87ae6375321b5975219", func := "loop.example/borrowcheck/laws.FnLoopBounds", spec := "fnLoopBounds", unfollowed := true, recurses := true, apart := false }
def FnLoopBoundsSaid : Prop := fnLoopBoundsRow.holds Try.pinned (OpenSpec.ofChange fnLoopBoundsSpec)

/-- ITS FALSE NEIGHBOUR: 'it returns false'. Refute it at one input. -/
def fnLoopBoundsWrong : ChangeSpec := { name := "fnLoopBounds", fn := fun _ => fun
  | [d] => { results := [.lit (.bool false)], args := [d] }
  | _ => none }
def FnLoopBoundsWrongFalsely : Prop := fnLoopBoundsRow.holds Try.pinned (OpenSpec.ofChange fnLoopBoundsWrong)

/-- 'laws.FnUseTakes': WHATEVER THE INPUT: true; the input reads as it did. -/
def fnUseTakesSpec : ChangeSpec := { name := "fnUseTakes", fn := fun _ => fun
  | [d] => { results := [.lit (.bool true)], args := [d] }
  | _ => none }
def fnUseTakesRow : OpenClaim := { program := "ytnckihdmmdpjpaa", sum := "65b5b6562a5be99492db864b1a6d3d0c8209982c11dac87ae6375321b5975219", func := "loop.example/borrowcheck/laws.FnUseTakes", spec := "fnUseTakes", unfollowed := true, recurses := true, apart := false }
def FnUseTakesSaid : Prop := fnUseTakesRow.holds Try.pinned (OpenSpec.ofChange fnUseTakesSpec)

/-- ITS FALSE NEIGHBOUR: 'it returns false'. Refute it at one input. -/
def fnUseTakesWrong : ChangeSpec := { name := "fnUseTakes", fn := fun _ => fun
  | [d] => { results := [.lit (.bool false)], args := [d] }
  | _ => none }
def FnUseTakesWrongFalsely : Prop := fnUseTakesRow.holds Try.pinned (OpenSpec.ofChange fnUseTakesWrong)

/-- 'laws.FnReachesThree': WHATEVER THE INPUT: true; the input reads as it did. -/
def fnReachesThreeSpec : ChangeSpec := { name := "fnReachesThree", fn := fun _ => fun
  | [d] => { results := [.lit (.bool true)], args := [d] }
  | _ => none }
def fnReachesThreeRow : OpenClaim := { program := "ytnckihdmmdpjpaa", sum := "65b5b6562a5be99492db864b1a6d3d0c8209982c11dac87ae6375321b5975219", func := "loop.example/borrowcheck/laws.FnReachesThree", spec := "fnReachesThree", unfollowed := true, recurses := true, apart := false }
def FnReachesThreeSaid : Prop := fnReachesThreeRow.holds Try.pinned (OpenSpec.ofChange fnReachesThreeSpec)

/-- ITS FALSE NEIGHBOUR: 'it returns false'. Refute it at one input. -/
def fnReachesThreeWrong : ChangeSpec := { name := "fnReachesThree", fn := fun _ => fun
  | [d] => { results := [.lit (.bool false)], args := [d] }
  | _ => none }
def FnReachesThreeWrongFalsely : Prop := fnReachesThreeRow.holds Try.pinned (OpenSpec.ofChange fnReachesThreeWrong)

/-- 'laws.FnDominatesThree': WHATEVER THE INPUT: true; the input reads as it did. -/
def fnDominatesThreeSpec : ChangeSpec := { name := "fnDominatesThree", fn := fun _ => fun
  | [d] => { results := [.lit (.bool true)], args := [d] }
  | _ => none }
def fnDominatesThreeRow : OpenClaim := { program := "ytnckihdmmdpjpaa", sum := "65b5b6562a5be99492db864b1a6d3d0c8209982c11dac87ae6375321b5975219", func := "loop.example/borrowcheck/laws.FnDominatesThree", spec := "fnDominatesThree", unfollowed := true, recurses := true, apart := false }
def FnDominatesThreeSaid : Prop := fnDominatesThreeRow.holds Try.pinned (OpenSpec.ofChange fnDominatesThreeSpec)

/-- ITS FALSE NEIGHBOUR: 'it returns false'. Refute it at one input. -/
def fnDominatesThreeWrong : ChangeSpec := { name := "fnDominatesThree", fn := fun _ => fun
  | [d] => { results := [.lit (.bool false)], args := [d] }
  | _ => none }
def FnDominatesThreeWrongFalsely : Prop := fnDominatesThreeRow.holds Try.pinned (OpenSpec.ofChange fnDominatesThreeWrong)

/-- 'laws.FnEndReached': WHATEVER THE INPUT: true; the input reads as it did. -/
def fnEndReachedSpec : ChangeSpec := { name := "fnEndReached", fn := fun _ => fun
  | [d] => { results := [.lit (.bool true)], args := [d] }
  | _ => none }
def fnEndReachedRow : OpenClaim := { program := "ytnckihdmmdpjpaa", sum := "65b5b6562a5be99492db864b1a6d3d0c8209982c11dac87ae6375321b5975219", func := "loop.example/borrowcheck/laws.FnEndReached", spec := "fnEndReached", unfollowed := true, recurses := true, apart := false }
def FnEndReachedSaid : Prop := fnEndReachedRow.holds Try.pinned (OpenSpec.ofChange fnEndReachedSpec)

/-- ITS FALSE NEIGHBOUR: 'it returns false'. Refute it at one input. -/
def fnEndReachedWrong : ChangeSpec := { name := "fnEndReached", fn := fun _ => fun
  | [d] => { results := [.lit (.bool false)], args := [d] }
  | _ => none }
def FnEndReachedWrongFalsely : Prop := fnEndReachedRow.holds Try.pinned (OpenSpec.ofChange fnEndReachedWrong)

/-- 'laws.FnDominatorsOf': WHATEVER THE INPUT: true; the input reads as it did. -/
def fnDominatorsOfSpec : ChangeSpec := { name := "fnDominatorsOf", fn := fun _ => fun
  | [d] => { results := [.lit (.bool true)], args := [d] }
  | _ => none }
def fnDominatorsOfRow : OpenClaim := { program := "ytnckihdmmdpjpaa", sum := "65b5b6562a5be99492db864b1a6d3d0c8209982c11dac87ae6375321b5975219", func := "loop.example/borrowcheck/laws.FnDominatorsOf", spec := "fnDominatorsOf", unfollowed := true, recurses := true, apart := false }
def FnDominatorsOfSaid : Prop := fnDominatorsOfRow.holds Try.pinned (OpenSpec.ofChange fnDominatorsOfSpec)

/-- ITS FALSE NEIGHBOUR: 'it returns false'. Refute it at one input. -/
def fnDominatorsOfWrong : ChangeSpec := { name := "fnDominatorsOf", fn := fun _ => fun
  | [d] => { results := [.lit (.bool false)], args := [d] }
  | _ => none }
def FnDominatorsOfWrongFalsely : Prop := fnDominatorsOfRow.holds Try.pinned (OpenSpec.ofChange fnDominatorsOfWrong)

/-- 'laws.FnFirstDominates': WHATEVER THE INPUT: true; the input reads as it did. -/
def fnFirstDominatesSpec : ChangeSpec := { name := "fnFirstDominates", fn := fun _ => fun
  | [d] => { results := [.lit (.bool true)], args := [d] }
  | _ => none }
def fnFirstDominatesRow : OpenClaim := { program := "ytnckihdmmdpjpaa", sum := "65b5b6562a5be99492db864b1a6d3d0c8209982c11dac87ae6375321b5975219", func := "loop.example/borrowcheck/laws.FnFirstDominates", spec := "fnFirstDominates", unfollowed := true, recurses := true, apart := false }
def FnFirstDominatesSaid : Prop := fnFirstDominatesRow.holds Try.pinned (OpenSpec.ofChange fnFirstDominatesSpec)

/-- ITS FALSE NEIGHBOUR: 'it returns false'. Refute it at one input. -/
def fnFirstDominatesWrong : ChangeSpec := { name := "fnFirstDominates", fn := fun _ => fun
  | [d] => { results := [.lit (.bool false)], args := [d] }
  | _ => none }
def FnFirstDominatesWrongFalsely : Prop := fnFirstDominatesRow.holds Try.pinned (OpenSpec.ofChange fnFirstDominatesWrong)

/-- 'laws.FnPathsFrom': WHATEVER THE INPUT: true; the input reads as it did. -/
def fnPathsFromSpec : ChangeSpec := { name := "fnPathsFrom", fn := fun _ => fun
  | [d] => { results := [.lit (.bool true)], args := [d] }
  | _ => none }
def fnPathsFromRow : OpenClaim := { program := "ytnckihdmmdpjpaa", sum := "65b5b6562a5be99492db864b1a6d3d0c8209982c11dac87ae6375321b5975219", func := "loop.example/borrowcheck/laws.FnPathsFrom", spec := "fnPathsFrom", unfollowed := true, recurses := true, apart := false }
def FnPathsFromSaid : Prop := fnPathsFromRow.holds Try.pinned (OpenSpec.ofChange fnPathsFromSpec)

/-- ITS FALSE NEIGHBOUR: 'it returns false'. Refute it at one input. -/
def fnPathsFromWrong : ChangeSpec := { name := "fnPathsFrom", fn := fun _ => fun
  | [d] => { results := [.lit (.bool false)], args := [d] }
  | _ => none }
def FnPathsFromWrongFalsely : Prop := fnPathsFromRow.holds Try.pinned (OpenSpec.ofChange fnPathsFromWrong)

/-- 'laws.FnUseOf': WHATEVER THE INPUT: true; the input reads as it did. -/
def fnUseOfSpec : ChangeSpec := { name := "fnUseOf", fn := fun _ => fun
  | [d] => { results := [.lit (.bool true)], args := [d] }
  | _ => none }
def fnUseOfRow : OpenClaim := { program := "ytnckihdmmdpjpaa", sum := "65b5b6562a5be99492db864b1a6d3d0c8209982c11dac87ae6375321b5975219", func := "loop.example/borrowcheck/laws.FnUseOf", spec := "fnUseOf", unfollowed := true, recurses := true, apart := false }
def FnUseOfSaid : Prop := fnUseOfRow.holds Try.pinned (OpenSpec.ofChange fnUseOfSpec)

/-- ITS FALSE NEIGHBOUR: 'it returns false'. Refute it at one input. -/
def fnUseOfWrong : ChangeSpec := { name := "fnUseOf", fn := fun _ => fun
  | [d] => { results := [.lit (.bool false)], args := [d] }
  | _ => none }
def FnUseOfWrongFalsely : Prop := fnUseOfRow.holds Try.pinned (OpenSpec.ofChange fnUseOfWrong)

/-- 'laws.FnLoansOf': WHATEVER THE INPUT: true; the input reads as it did. -/
def fnLoansOfSpec : ChangeSpec := { name := "fnLoansOf", fn := fun _ => fun
  | [d] => { results := [.lit (.bool true)], args := [d] }
  | _ => none }
def fnLoansOfRow : OpenClaim := { program := "ytnckihdmmdpjpaa", sum := "65b5b6562a5be99492db864b1a6d3d0c8209982c11dac87ae6375321b5975219", func := "loop.example/borrowcheck/laws.FnLoansOf", spec := "fnLoansOf", unfollowed := true, recurses := true, apart := false }
def FnLoansOfSaid : Prop := fnLoansOfRow.holds Try.pinned (OpenSpec.ofChange fnLoansOfSpec)

/-- ITS FALSE NEIGHBOUR: 'it returns false'. Refute it at one input. -/
def fnLoansOfWrong : ChangeSpec := { name := "fnLoansOf", fn := fun _ => fun
  | [d] => { results := [.lit (.bool false)], args := [d] }
  | _ => none }
def FnLoansOfWrongFalsely : Prop := fnLoansOfRow.holds Try.pinned (OpenSpec.ofChange fnLoansOfWrong)

/-- 'laws.FnBoundsOf': WHATEVER THE INPUT: true; the input reads as it did. -/
def fnBoundsOfSpec : ChangeSpec := { name := "fnBoundsOf", fn := fun _ => fun
  | [d] => { results := [.lit (.bool true)], args := [d] }
  | _ => none }
def fnBoundsOfRow : OpenClaim := { program := "ytnckihdmmdpjpaa", sum := "65b5b6562a5be99492db864b1a6d3d0c8209982c11dac87ae6375321b5975219", func := "loop.example/borrowcheck/laws.FnBoundsOf", spec := "fnBoundsOf", unfollowed := true, recurses := true, apart := false }
def FnBoundsOfSaid : Prop := fnBoundsOfRow.holds Try.pinned (OpenSpec.ofChange fnBoundsOfSpec)

/-- ITS FALSE NEIGHBOUR: 'it returns false'. Refute it at one input. -/
def fnBoundsOfWrong : ChangeSpec := { name := "fnBoundsOf", fn := fun _ => fun
  | [d] => { results := [.lit (.bool false)], args := [d] }
  | _ => none }
def FnBoundsOfWrongFalsely : Prop := fnBoundsOfRow.holds Try.pinned (OpenSpec.ofChange fnBoundsOfWrong)

/-- 'laws.FnExactTakesOf': WHATEVER THE INPUT: true; the input reads as it did. -/
def fnExactTakesOfSpec : ChangeSpec := { name := "fnExactTakesOf", fn := fun _ => fun
  | [d] => { results := [.lit (.bool true)], args := [d] }
  | _ => none }
def fnExactTakesOfRow : OpenClaim := { program := "ytnckihdmmdpjpaa", sum := "65b5b6562a5be99492db864b1a6d3d0c8209982c11dac87ae6375321b5975219", func := "loop.example/borrowcheck/laws.FnExactTakesOf", spec := "fnExactTakesOf", unfollowed := true, recurses := true, loops := true, apart := false }
def FnExactTakesOfSaid : Prop := fnExactTakesOfRow.holds Try.pinned (OpenSpec.ofChange fnExactTakesOfSpec)

/-- ITS FALSE NEIGHBOUR: 'it returns false'. Refute it at one input. -/
def fnExactTakesOfWrong : ChangeSpec := { name := "fnExactTakesOf", fn := fun _ => fun
  | [d] => { results := [.lit (.bool false)], args := [d] }
  | _ => none }
def FnExactTakesOfWrongFalsely : Prop := fnExactTakesOfRow.holds Try.pinned (OpenSpec.ofChange fnExactTakesOfWrong)

/- THE SECOND FORM. 'bulk': how many values and letters a reading holds, each counted each time it is reached (what is shared counts as often as it is met; a slice's spare places count too). A statement '..UptoSaid' is the law's where the arguments, and the package variables that the reading takes, are together of bulk at most 1048576: NARROWER than '..Said'. Prove '..Said' where nothing that the law and all that it calls make is longer than what came in: it says more and counts as full. Else prove '..UptoSaid'. A law counts once. -/
mutual
def uptoBulk {H : Type} : DataW H → Nat
  | .lit (.string bytes) => bytes.length + 1
  | .lit _ => 1
  | .nil => 1
  | .ptr d => uptoBulk d + 1
  | .slice elems spare => uptoBulkAll elems + uptoBulkAll spare + 1
  | .agg parts => uptoBulkAll parts + 1
  | .iface _ d => uptoBulk d + 1
  | .map entries => uptoBulkEntries entries + 1
  | .held _ => 1
def uptoBulkAll {H : Type} : List (DataW H) → Nat
  | [] => 0
  | d :: r => uptoBulk d + uptoBulkAll r
def uptoBulkEntries {H : Type} : List (Lit × DataW H) → Nat
  | [] => 0
  | x :: r => uptoBulkEntry x + uptoBulkEntries r
def uptoBulkEntry {H : Type} : Lit × DataW H → Nat
  | (.string bytes, d) => bytes.length + uptoBulk d + 1
  | (_, d) => uptoBulk d + 1
 end
def uptoSmall : (H : Type) → List (DataW H) → Bool := fun _ ds => decide (uptoBulkAll ds ≤ 1048576)
def OpenSpec.upto (s : _root_.Go.ChangeSpec) : _root_.Go.OpenSpec := { _root_.Go.OpenSpec.ofChange s with cond := some uptoSmall }

/-- 'laws.FnPathsTo', WHERE WHAT IT READS IS OF BULK AT MOST 1048576: true; the input reads as it did. -/
def fnPathsToUptoRow : OpenClaim := { program := "ytnckihdmmdpjpaa", sum := "65b5b6562a5be99492db864b1a6d3d0c8209982c11dac87ae6375321b5975219", func := "loop.example/borrowcheck/laws.FnPathsTo", spec := "fnPathsTo", unfollowed := true, recurses := true, apart := false, narrowed := true }
def FnPathsToUptoSaid : Prop := fnPathsToUptoRow.holds Try.pinned (OpenSpec.upto fnPathsToSpec)

/-- 'laws.FnNextPoint', WHERE WHAT IT READS IS OF BULK AT MOST 1048576: true; the input reads as it did. -/
def fnNextPointUptoRow : OpenClaim := { program := "ytnckihdmmdpjpaa", sum := "65b5b6562a5be99492db864b1a6d3d0c8209982c11dac87ae6375321b5975219", func := "loop.example/borrowcheck/laws.FnNextPoint", spec := "fnNextPoint", unfollowed := true, recurses := true, apart := false, narrowed := true }
def FnNextPointUptoSaid : Prop := fnNextPointUptoRow.holds Try.pinned (OpenSpec.upto fnNextPointSpec)

/-- 'laws.FnPointsOf', WHERE WHAT IT READS IS OF BULK AT MOST 1048576: true; the input reads as it did. -/
def fnPointsOfUptoRow : OpenClaim := { program := "ytnckihdmmdpjpaa", sum := "65b5b6562a5be99492db864b1a6d3d0c8209982c11dac87ae6375321b5975219", func := "loop.example/borrowcheck/laws.FnPointsOf", spec := "fnPointsOf", unfollowed := true, recurses := true, apart := false, narrowed := true }
def FnPointsOfUptoSaid : Prop := fnPointsOfUptoRow.holds Try.pinned (OpenSpec.upto fnPointsOfSpec)

/-- 'laws.FnLoopBounds', WHERE WHAT IT READS IS OF BULK AT MOST 1048576: true; the input reads as it did. -/
def fnLoopBoundsUptoRow : OpenClaim := { program := "ytnckihdmmdpjpaa", sum := "65b5b6562a5be99492db864b1a6d3d0c8209982c11dac87ae6375321b5975219", func := "loop.example/borrowcheck/laws.FnLoopBounds", spec := "fnLoopBounds", unfollowed := true, recurses := true, apart := false, narrowed := true }
def FnLoopBoundsUptoSaid : Prop := fnLoopBoundsUptoRow.holds Try.pinned (OpenSpec.upto fnLoopBoundsSpec)

/-- 'laws.FnUseTakes', WHERE WHAT IT READS IS OF BULK AT MOST 1048576: true; the input reads as it did. -/
def fnUseTakesUptoRow : OpenClaim := { program := "ytnckihdmmdpjpaa", sum := "65b5b6562a5be99492db864b1a6d3d0c8209982c11dac87ae6375321b5975219", func := "loop.example/borrowcheck/laws.FnUseTakes", spec := "fnUseTakes", unfollowed := true, recurses := true, apart := false, narrowed := true }
def FnUseTakesUptoSaid : Prop := fnUseTakesUptoRow.holds Try.pinned (OpenSpec.upto fnUseTakesSpec)

/-- 'laws.FnReachesThree', WHERE WHAT IT READS IS OF BULK AT MOST 1048576: true; the input reads as it did. -/
def fnReachesThreeUptoRow : OpenClaim := { program := "ytnckihdmmdpjpaa", sum := "65b5b6562a5be99492db864b1a6d3d0c8209982c11dac87ae6375321b5975219", func := "loop.example/borrowcheck/laws.FnReachesThree", spec := "fnReachesThree", unfollowed := true, recurses := true, apart := false, narrowed := true }
def FnReachesThreeUptoSaid : Prop := fnReachesThreeUptoRow.holds Try.pinned (OpenSpec.upto fnReachesThreeSpec)

/-- 'laws.FnDominatesThree', WHERE WHAT IT READS IS OF BULK AT MOST 1048576: true; the input reads as it did. -/
def fnDominatesThreeUptoRow : OpenClaim := { program := "ytnckihdmmdpjpaa", sum := "65b5b6562a5be99492db864b1a6d3d0c8209982c11dac87ae6375321b5975219", func := "loop.example/borrowcheck/laws.FnDominatesThree", spec := "fnDominatesThree", unfollowed := true, recurses := true, apart := false, narrowed := true }
def FnDominatesThreeUptoSaid : Prop := fnDominatesThreeUptoRow.holds Try.pinned (OpenSpec.upto fnDominatesThreeSpec)

/-- 'laws.FnEndReached', WHERE WHAT IT READS IS OF BULK AT MOST 1048576: true; the input reads as it did. -/
def fnEndReachedUptoRow : OpenClaim := { program := "ytnckihdmmdpjpaa", sum := "65b5b6562a5be99492db864b1a6d3d0c8209982c11dac87ae6375321b5975219", func := "loop.example/borrowcheck/laws.FnEndReached", spec := "fnEndReached", unfollowed := true, recurses := true, apart := false, narrowed := true }
def FnEndReachedUptoSaid : Prop := fnEndReachedUptoRow.holds Try.pinned (OpenSpec.upto fnEndReachedSpec)

/-- 'laws.FnDominatorsOf', WHERE WHAT IT READS IS OF BULK AT MOST 1048576: true; the input reads as it did. -/
def fnDominatorsOfUptoRow : OpenClaim := { program := "ytnckihdmmdpjpaa", sum := "65b5b6562a5be99492db864b1a6d3d0c8209982c11dac87ae6375321b5975219", func := "loop.example/borrowcheck/laws.FnDominatorsOf", spec := "fnDominatorsOf", unfollowed := true, recurses := true, apart := false, narrowed := true }
def FnDominatorsOfUptoSaid : Prop := fnDominatorsOfUptoRow.holds Try.pinned (OpenSpec.upto fnDominatorsOfSpec)

/-- 'laws.FnFirstDominates', WHERE WHAT IT READS IS OF BULK AT MOST 1048576: true; the input reads as it did. -/
def fnFirstDominatesUptoRow : OpenClaim := { program := "ytnckihdmmdpjpaa", sum := "65b5b6562a5be99492db864b1a6d3d0c8209982c11dac87ae6375321b5975219", func := "loop.example/borrowcheck/laws.FnFirstDominates", spec := "fnFirstDominates", unfollowed := true, recurses := true, apart := false, narrowed := true }
def FnFirstDominatesUptoSaid : Prop := fnFirstDominatesUptoRow.holds Try.pinned (OpenSpec.upto fnFirstDominatesSpec)

/-- 'laws.FnPathsFrom', WHERE WHAT IT READS IS OF BULK AT MOST 1048576: true; the input reads as it did. -/
def fnPathsFromUptoRow : OpenClaim := { program := "ytnckihdmmdpjpaa", sum := "65b5b6562a5be99492db864b1a6d3d0c8209982c11dac87ae6375321b5975219", func := "loop.example/borrowcheck/laws.FnPathsFrom", spec := "fnPathsFrom", unfollowed := true, recurses := true, apart := false, narrowed := true }
def FnPathsFromUptoSaid : Prop := fnPathsFromUptoRow.holds Try.pinned (OpenSpec.upto fnPathsFromSpec)

/-- 'laws.FnUseOf', WHERE WHAT IT READS IS OF BULK AT MOST 1048576: true; the input reads as it did. -/
def fnUseOfUptoRow : OpenClaim := { program := "ytnckihdmmdpjpaa", sum := "65b5b6562a5be99492db864b1a6d3d0c8209982c11dac87ae6375321b5975219", func := "loop.example/borrowcheck/laws.FnUseOf", spec := "fnUseOf", unfollowed := true, recurses := true, apart := false, narrowed := true }
def FnUseOfUptoSaid : Prop := fnUseOfUptoRow.holds Try.pinned (OpenSpec.upto fnUseOfSpec)

/-- 'laws.FnLoansOf', WHERE WHAT IT READS IS OF BULK AT MOST 1048576: true; the input reads as it did. -/
def fnLoansOfUptoRow : OpenClaim := { program := "ytnckihdmmdpjpaa", sum := "65b5b6562a5be99492db864b1a6d3d0c8209982c11dac87ae6375321b5975219", func := "loop.example/borrowcheck/laws.FnLoansOf", spec := "fnLoansOf", unfollowed := true, recurses := true, apart := false, narrowed := true }
def FnLoansOfUptoSaid : Prop := fnLoansOfUptoRow.holds Try.pinned (OpenSpec.upto fnLoansOfSpec)

/-- 'laws.FnBoundsOf', WHERE WHAT IT READS IS OF BULK AT MOST 1048576: true; the input reads as it did. -/
def fnBoundsOfUptoRow : OpenClaim := { program := "ytnckihdmmdpjpaa", sum := "65b5b6562a5be99492db864b1a6d3d0c8209982c11dac87ae6375321b5975219", func := "loop.example/borrowcheck/laws.FnBoundsOf", spec := "fnBoundsOf", unfollowed := true, recurses := true, apart := false, narrowed := true }
def FnBoundsOfUptoSaid : Prop := fnBoundsOfUptoRow.holds Try.pinned (OpenSpec.upto fnBoundsOfSpec)

/-- 'laws.FnExactTakesOf', WHERE WHAT IT READS IS OF BULK AT MOST 1048576: true; the input reads as it did. -/
def fnExactTakesOfUptoRow : OpenClaim := { program := "ytnckihdmmdpjpaa", sum := "65b5b6562a5be99492db864b1a6d3d0c8209982c11dac87ae6375321b5975219", func := "loop.example/borrowcheck/laws.FnExactTakesOf", spec := "fnExactTakesOf", unfollowed := true, recurses := true, loops := true, apart := false, narrowed := true }
def FnExactTakesOfUptoSaid : Prop := fnExactTakesOfUptoRow.holds Try.pinned (OpenSpec.upto fnExactTakesOfSpec)

end Rows
end Go.Proofs.Ytnckihdmmdpjpaa

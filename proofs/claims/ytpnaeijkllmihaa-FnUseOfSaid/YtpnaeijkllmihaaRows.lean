/-
  No cell of these rows narrows 'for every input' (looked for: loops, veiled, ifaces, maps, wideKeys, modest, calm, conditions, laid).
  DERIVED. THE GIVEN ROWS OF THIS SEAT. 13 by the template 'for every input the law returns true; each argument reads behind the call as it read before'; 0 by the template 'total and deterministic' (their statements: YtpnaeijkllmihaaTotals.lean).
  GIVEN WITH THE SEED: the statements are not yours to turn. If you find one false, say at which input.
  Laid BY PROGRAM, IN A SANDBOX (cutbox-rows.mjs): the forced cells as the released guide's own fill.sh prints them over the translation 38d500516f9206ca… (all of the seat's roots in one cut). By AI agents, Wed Nov 11 2026. No macro, syntax, notation, axiom, sorry.
-/
import Derived.Test.YtpnaeijkllmihaaChecked
import GoSem.Claim
import GoSem.ClaimJoined
import GoSem.ClaimMapViews
import Derived.JoinedTies
import Derived.KernelRfl
namespace Go.Proofs.Ytpnaeijkllmihaa
/- THE CELL 'sum', in the pinned program and in every row, IS THE sha256 OF THE DUMP (.gsa) THAT YtpnaeijkllmihaaProg.lean LOADS. Nothing in Lean hashes anything: it is a label: what it is worth is what the hold of that sum in a sandbox is worth. -/
noncomputable def Try.pinned : Pinned := { name := "ytpnaeijkllmihaa", sum := "38d500516f9206ca685f630f896e5b31d757aa77f1ae1c5d45fe49a96a5c05d7", checked := Try.checked }
namespace Rows
def none {H : Type} : Left H := { results := [], args := [] }

/-- 'laws.FnOutliveSelf': WHATEVER THE INPUT: true; the input reads as it did. -/
def fnOutliveSelfSpec : ChangeSpec := { name := "fnOutliveSelf", fn := fun _ => fun
  | [d] => { results := [.lit (.bool true)], args := [d] }
  | _ => none }
def fnOutliveSelfRow : OpenClaim := { program := "ytpnaeijkllmihaa", sum := "38d500516f9206ca685f630f896e5b31d757aa77f1ae1c5d45fe49a96a5c05d7", func := "loop.example/borrowcheck/laws.FnOutliveSelf", spec := "fnOutliveSelf", unfollowed := true, recurses := true, apart := false }
def FnOutliveSelfSaid : Prop := fnOutliveSelfRow.holds Try.pinned (OpenSpec.ofChange fnOutliveSelfSpec)

/-- ITS FALSE NEIGHBOUR: 'it returns false'. Refute it at one input. -/
def fnOutliveSelfWrong : ChangeSpec := { name := "fnOutliveSelf", fn := fun _ => fun
  | [d] => { results := [.lit (.bool false)], args := [d] }
  | _ => none }
def FnOutliveSelfWrongFalsely : Prop := fnOutliveSelfRow.holds Try.pinned (OpenSpec.ofChange fnOutliveSelfWrong)

/-- 'laws.FnNextPoint': WHATEVER THE INPUT: true; the input reads as it did. -/
def fnNextPointSpec : ChangeSpec := { name := "fnNextPoint", fn := fun _ => fun
  | [d] => { results := [.lit (.bool true)], args := [d] }
  | _ => none }
def fnNextPointRow : OpenClaim := { program := "ytpnaeijkllmihaa", sum := "38d500516f9206ca685f630f896e5b31d757aa77f1ae1c5d45fe49a96a5c05d7", func := "loop.example/borrowcheck/laws.FnNextPoint", spec := "fnNextPoint", unfollowed := true, recurses := true, apart := false }
def FnNextPointSaid : Prop := fnNextPointRow.holds Try.pinned (OpenSpec.ofChange fnNextPointSpec)

/-- ITS FALSE NEIGHBOUR: 'it returns false'. Refute it at one input. -/
def fnNextPointWrong : ChangeSpec := { name := "fnNextPoint", fn := fun _ => fun
  | [d] => { results := [.lit (.bool false)], args := [d] }
  | _ => none }
def FnNextPointWrongFalsely : Prop := fnNextPointRow.holds Try.pinned (OpenSpec.ofChange fnNextPointWrong)

/-- 'laws.FnUseTakes': WHATEVER THE INPUT: true; the input reads as it did. -/
def fnUseTakesSpec : ChangeSpec := { name := "fnUseTakes", fn := fun _ => fun
  | [d] => { results := [.lit (.bool true)], args := [d] }
  | _ => none }
def fnUseTakesRow : OpenClaim := { program := "ytpnaeijkllmihaa", sum := "38d500516f9206ca685f630f896e5b31d757aa77f1ae1c5d45fe49a96a5c05d7", func := "loop.example/borrowcheck/laws.FnUseTakes", spec := "fnUseTakes", unfollowed := true, recurses := true, apart := false }
def FnUseTakesSaid : Prop := fnUseTakesRow.holds Try.pinned (OpenSpec.ofChange fnUseTakesSpec)

/-- ITS FALSE NEIGHBOUR: 'it returns false'. Refute it at one input. -/
def fnUseTakesWrong : ChangeSpec := { name := "fnUseTakes", fn := fun _ => fun
  | [d] => { results := [.lit (.bool false)], args := [d] }
  | _ => none }
def FnUseTakesWrongFalsely : Prop := fnUseTakesRow.holds Try.pinned (OpenSpec.ofChange fnUseTakesWrong)

/-- 'laws.FnLoopBounds': WHATEVER THE INPUT: true; the input reads as it did. -/
def fnLoopBoundsSpec : ChangeSpec := { name := "fnLoopBounds", fn := fun _ => fun
  | [d] => { results := [.lit (.bool true)], args := [d] }
  | _ => none }
def fnLoopBoundsRow : OpenClaim := { program := "ytpnaeijkllmihaa", sum := "38d500516f9206ca685f630f896e5b31d757aa77f1ae1c5d45fe49a96a5c05d7", func := "loop.example/borrowcheck/laws.FnLoopBounds", spec := "fnLoopBounds", unfollowed := true, recurses := true, apart := false }
def FnLoopBoundsSaid : Prop := fnLoopBoundsRow.holds Try.pinned (OpenSpec.ofChange fnLoopBoundsSpec)

/-- ITS FALSE NEIGHBOUR: 'it returns false'. Refute it at one input. -/
def fnLoopBoundsWrong : ChangeSpec := { name := "fnLoopBounds", fn := fun _ => fun
  | [d] => { results := [.lit (.bool false)], args := [d] }
  | _ => none }
def FnLoopBoundsWrongFalsely : Prop := fnLoopBoundsRow.holds Try.pinned (OpenSpec.ofChange fnLoopBoundsWrong)

/-- 'laws.FnPathsFrom': WHATEVER THE INPUT: true; the input reads as it did. -/
def fnPathsFromSpec : ChangeSpec := { name := "fnPathsFrom", fn := fun _ => fun
  | [d] => { results := [.lit (.bool true)], args := [d] }
  | _ => none }
def fnPathsFromRow : OpenClaim := { program := "ytpnaeijkllmihaa", sum := "38d500516f9206ca685f630f896e5b31d757aa77f1ae1c5d45fe49a96a5c05d7", func := "loop.example/borrowcheck/laws.FnPathsFrom", spec := "fnPathsFrom", unfollowed := true, recurses := true, apart := false }
def FnPathsFromSaid : Prop := fnPathsFromRow.holds Try.pinned (OpenSpec.ofChange fnPathsFromSpec)

/-- ITS FALSE NEIGHBOUR: 'it returns false'. Refute it at one input. -/
def fnPathsFromWrong : ChangeSpec := { name := "fnPathsFrom", fn := fun _ => fun
  | [d] => { results := [.lit (.bool false)], args := [d] }
  | _ => none }
def FnPathsFromWrongFalsely : Prop := fnPathsFromRow.holds Try.pinned (OpenSpec.ofChange fnPathsFromWrong)

/-- 'laws.FnDominatorsOf': WHATEVER THE INPUT: true; the input reads as it did. -/
def fnDominatorsOfSpec : ChangeSpec := { name := "fnDominatorsOf", fn := fun _ => fun
  | [d] => { results := [.lit (.bool true)], args := [d] }
  | _ => none }
def fnDominatorsOfRow : OpenClaim := { program := "ytpnaeijkllmihaa", sum := "38d500516f9206ca685f630f896e5b31d757aa77f1ae1c5d45fe49a96a5c05d7", func := "loop.example/borrowcheck/laws.FnDominatorsOf", spec := "fnDominatorsOf", unfollowed := true, recurses := true, apart := false }
def FnDominatorsOfSaid : Prop := fnDominatorsOfRow.holds Try.pinned (OpenSpec.ofChange fnDominatorsOfSpec)

/-- ITS FALSE NEIGHBOUR: 'it returns false'. Refute it at one input. -/
def fnDominatorsOfWrong : ChangeSpec := { name := "fnDominatorsOf", fn := fun _ => fun
  | [d] => { results := [.lit (.bool false)], args := [d] }
  | _ => none }
def FnDominatorsOfWrongFalsely : Prop := fnDominatorsOfRow.holds Try.pinned (OpenSpec.ofChange fnDominatorsOfWrong)

/-- 'laws.FnOutlives': WHATEVER THE INPUT: true; the input reads as it did. -/
def fnOutlivesSpec : ChangeSpec := { name := "fnOutlives", fn := fun _ => fun
  | [d] => { results := [.lit (.bool true)], args := [d] }
  | _ => none }
def fnOutlivesRow : OpenClaim := { program := "ytpnaeijkllmihaa", sum := "38d500516f9206ca685f630f896e5b31d757aa77f1ae1c5d45fe49a96a5c05d7", func := "loop.example/borrowcheck/laws.FnOutlives", spec := "fnOutlives", unfollowed := true, recurses := true, apart := false }
def FnOutlivesSaid : Prop := fnOutlivesRow.holds Try.pinned (OpenSpec.ofChange fnOutlivesSpec)

/-- ITS FALSE NEIGHBOUR: 'it returns false'. Refute it at one input. -/
def fnOutlivesWrong : ChangeSpec := { name := "fnOutlives", fn := fun _ => fun
  | [d] => { results := [.lit (.bool false)], args := [d] }
  | _ => none }
def FnOutlivesWrongFalsely : Prop := fnOutlivesRow.holds Try.pinned (OpenSpec.ofChange fnOutlivesWrong)

/-- 'laws.FnRegionLoans': WHATEVER THE INPUT: true; the input reads as it did. -/
def fnRegionLoansSpec : ChangeSpec := { name := "fnRegionLoans", fn := fun _ => fun
  | [d] => { results := [.lit (.bool true)], args := [d] }
  | _ => none }
def fnRegionLoansRow : OpenClaim := { program := "ytpnaeijkllmihaa", sum := "38d500516f9206ca685f630f896e5b31d757aa77f1ae1c5d45fe49a96a5c05d7", func := "loop.example/borrowcheck/laws.FnRegionLoans", spec := "fnRegionLoans", unfollowed := true, recurses := true, apart := false }
def FnRegionLoansSaid : Prop := fnRegionLoansRow.holds Try.pinned (OpenSpec.ofChange fnRegionLoansSpec)

/-- ITS FALSE NEIGHBOUR: 'it returns false'. Refute it at one input. -/
def fnRegionLoansWrong : ChangeSpec := { name := "fnRegionLoans", fn := fun _ => fun
  | [d] => { results := [.lit (.bool false)], args := [d] }
  | _ => none }
def FnRegionLoansWrongFalsely : Prop := fnRegionLoansRow.holds Try.pinned (OpenSpec.ofChange fnRegionLoansWrong)

/-- 'laws.FnBoundsOf': WHATEVER THE INPUT: true; the input reads as it did. -/
def fnBoundsOfSpec : ChangeSpec := { name := "fnBoundsOf", fn := fun _ => fun
  | [d] => { results := [.lit (.bool true)], args := [d] }
  | _ => none }
def fnBoundsOfRow : OpenClaim := { program := "ytpnaeijkllmihaa", sum := "38d500516f9206ca685f630f896e5b31d757aa77f1ae1c5d45fe49a96a5c05d7", func := "loop.example/borrowcheck/laws.FnBoundsOf", spec := "fnBoundsOf", unfollowed := true, recurses := true, apart := false }
def FnBoundsOfSaid : Prop := fnBoundsOfRow.holds Try.pinned (OpenSpec.ofChange fnBoundsOfSpec)

/-- ITS FALSE NEIGHBOUR: 'it returns false'. Refute it at one input. -/
def fnBoundsOfWrong : ChangeSpec := { name := "fnBoundsOf", fn := fun _ => fun
  | [d] => { results := [.lit (.bool false)], args := [d] }
  | _ => none }
def FnBoundsOfWrongFalsely : Prop := fnBoundsOfRow.holds Try.pinned (OpenSpec.ofChange fnBoundsOfWrong)

/-- 'laws.FnEndReached': WHATEVER THE INPUT: true; the input reads as it did. -/
def fnEndReachedSpec : ChangeSpec := { name := "fnEndReached", fn := fun _ => fun
  | [d] => { results := [.lit (.bool true)], args := [d] }
  | _ => none }
def fnEndReachedRow : OpenClaim := { program := "ytpnaeijkllmihaa", sum := "38d500516f9206ca685f630f896e5b31d757aa77f1ae1c5d45fe49a96a5c05d7", func := "loop.example/borrowcheck/laws.FnEndReached", spec := "fnEndReached", unfollowed := true, recurses := true, apart := false }
def FnEndReachedSaid : Prop := fnEndReachedRow.holds Try.pinned (OpenSpec.ofChange fnEndReachedSpec)

/-- ITS FALSE NEIGHBOUR: 'it returns false'. Refute it at one input. -/
def fnEndReachedWrong : ChangeSpec := { name := "fnEndReached", fn := fun _ => fun
  | [d] => { results := [.lit (.bool false)], args := [d] }
  | _ => none }
def FnEndReachedWrongFalsely : Prop := fnEndReachedRow.holds Try.pinned (OpenSpec.ofChange fnEndReachedWrong)

/-- 'laws.FnPathsTo': WHATEVER THE INPUT: true; the input reads as it did. -/
def fnPathsToSpec : ChangeSpec := { name := "fnPathsTo", fn := fun _ => fun
  | [d] => { results := [.lit (.bool true)], args := [d] }
  | _ => none }
def fnPathsToRow : OpenClaim := { program := "ytpnaeijkllmihaa", sum := "38d500516f9206ca685f630f896e5b31d757aa77f1ae1c5d45fe49a96a5c05d7", func := "loop.example/borrowcheck/laws.FnPathsTo", spec := "fnPathsTo", unfollowed := true, recurses := true, apart := false }
def FnPathsToSaid : Prop := fnPathsToRow.holds Try.pinned (OpenSpec.ofChange fnPathsToSpec)

/-- ITS FALSE NEIGHBOUR: 'it returns false'. Refute it at one input. -/
def fnPathsToWrong : ChangeSpec := { name := "fnPathsTo", fn := fun _ => fun
  | [d] => { results := [.lit (.bool false)], args := [d] }
  | _ => none }
def FnPathsToWrongFalsely : Prop := fnPathsToRow.holds Try.pinned (OpenSpec.ofChange fnPathsToWrong)

/-- 'laws.FnLoansOf': WHATEVER THE INPUT: true; the input reads as it did. -/
def fnLoansOfSpec : ChangeSpec := { name := "fnLoansOf", fn := fun _ => fun
  | [d] => { results := [.lit (.bool true)], args := [d] }
  | _ => none }
def fnLoansOfRow : OpenClaim := { program := "ytpnaeijkllmihaa", sum := "38d500516f9206ca685f630f896e5b31d757aa77f1ae1c5d45fe49a96a5c05d7", func := "loop.example/borrowcheck/laws.FnLoansOf", spec := "fnLoansOf", unfollowed := true, recurses := true, apart := false }
def FnLoansOfSaid : Prop := fnLoansOfRow.holds Try.pinned (OpenSpec.ofChange fnLoansOfSpec)

/-- ITS FALSE NEIGHBOUR: 'it returns false'. Refute it at one input. -/
def fnLoansOfWrong : ChangeSpec := { name := "fnLoansOf", fn := fun _ => fun
  | [d] => { results := [.lit (.bool false)], args := [d] }
  | _ => none }
def FnLoansOfWrongFalsely : Prop := fnLoansOfRow.holds Try.pinned (OpenSpec.ofChange fnLoansOfWrong)

/-- 'laws.FnUseOf': WHATEVER THE INPUT: true; the input reads as it did. -/
def fnUseOfSpec : ChangeSpec := { name := "fnUseOf", fn := fun _ => fun
  | [d] => { results := [.lit (.bool true)], args := [d] }
  | _ => none }
def fnUseOfRow : OpenClaim := { program := "ytpnaeijkllmihaa", sum := "38d500516f9206ca685f630f896e5b31d757aa77f1ae1c5d45fe49a96a5c05d7", func := "loop.example/borrowcheck/laws.FnUseOf", spec := "fnUseOf", unfollowed := true, recurses := true, apart := false }
def FnUseOfSaid : Prop := fnUseOfRow.holds Try.pinned (OpenSpec.ofChange fnUseOfSpec)

/-- ITS FALSE NEIGHBOUR: 'it returns false'. Refute it at one input. -/
def fnUseOfWrong : ChangeSpec := { name := "fnUseOf", fn := fun _ => fun
  | [d] => { results := [.lit (.bool false)], args := [d] }
  | _ => none }
def FnUseOfWrongFalsely : Prop := fnUseOfRow.holds Try.pinned (OpenSpec.ofChange fnUseOfWrong)

/- THE SECOND FORM. 'bulk': how many values and letters a reading holds, each counted each time it is reached (what is shared counts as often as it is met; a slice's spare places count too). A statement '..UptoSaid' is the law's where the arguments, and the package variables that the reading takes, are together of bulk at most 1048576: NARROWER than '..Said'. Prove '..Said' where nothing that the law and all that it calls make is longer than what came in: it says more and counts as full. Else prove '..UptoSaid'. A law counts once. -/
mutual
def uptoBulk {H : Type} : DataW H → Nat
  | .lit (.string bytes) => bytes.length + 1
  | .lit _ => 1
  | .nil => 1
  | .ptr d => uptoBulk d + 1
  | .slice elems spare => uptoBulkAll elems + uptoBulkAll spare + 1
  | .agg parts => uptoBulkAll parts + 1
  | .iface _ d => uptoBulk d + 1
  | .map entries => uptoBulkEntries entries + 1
  | .held _ => 1
def uptoBulkAll {H : Type} : List (DataW H) → Nat
  | [] => 0
  | d :: r => uptoBulk d + uptoBulkAll r
def uptoBulkEntries {H : Type} : List (Lit × DataW H) → Nat
  | [] => 0
  | x :: r => uptoBulkEntry x + uptoBulkEntries r
def uptoBulkEntry {H : Type} : Lit × DataW H → Nat
  | (.string bytes, d) => bytes.length + uptoBulk d + 1
  | (_, d) => uptoBulk d + 1
 end
def uptoSmall : (H : Type) → List (DataW H) → Bool := fun _ ds => decide (uptoBulkAll ds ≤ 1048576)
def OpenSpec.upto (s : _root_.Go.ChangeSpec) : _root_.Go.OpenSpec := { _root_.Go.OpenSpec.ofChange s with cond := some uptoSmall }

/-- 'laws.FnOutliveSelf', WHERE WHAT IT READS IS OF BULK AT MOST 1048576: true; the input reads as it did. -/
def fnOutliveSelfUptoRow : OpenClaim := { program := "ytpnaeijkllmihaa", sum := "38d500516f9206ca685f630f896e5b31d757aa77f1ae1c5d45fe49a96a5c05d7", func := "loop.example/borrowcheck/laws.FnOutliveSelf", spec := "fnOutliveSelf", unfollowed := true, recurses := true, apart := false, narrowed := true }
def FnOutliveSelfUptoSaid : Prop := fnOutliveSelfUptoRow.holds Try.pinned (OpenSpec.upto fnOutliveSelfSpec)

/-- 'laws.FnNextPoint', WHERE WHAT IT READS IS OF BULK AT MOST 1048576: true; the input reads as it did. -/
def fnNextPointUptoRow : OpenClaim := { program := "ytpnaeijkllmihaa", sum := "38d500516f9206ca685f630f896e5b31d757aa77f1ae1c5d45fe49a96a5c05d7", func := "loop.example/borrowcheck/laws.FnNextPoint", spec := "fnNextPoint", unfollowed := true, recurses := true, apart := false, narrowed := true }
def FnNextPointUptoSaid : Prop := fnNextPointUptoRow.holds Try.pinned (OpenSpec.upto fnNextPointSpec)

/-- 'laws.FnUseTakes', WHERE WHAT IT READS IS OF BULK AT MOST 1048576: true; the input reads as it did. -/
def fnUseTakesUptoRow : OpenClaim := { program := "ytpnaeijkllmihaa", sum := "38d500516f9206ca685f630f896e5b31d757aa77f1ae1c5d45fe49a96a5c05d7", func := "loop.example/borrowcheck/laws.FnUseTakes", spec := "fnUseTakes", unfollowed := true, recurses := true, apart := false, narrowed := true }
def FnUseTakesUptoSaid : Prop := fnUseTakesUptoRow.holds Try.pinned (OpenSpec.upto fnUseTakesSpec)

/-- 'laws.FnLoopBounds', WHERE WHAT IT READS IS OF BULK AT MOST 1048576: true; the input reads as it did. -/
def fnLoopBoundsUptoRow : OpenClaim := { program := "ytpnaeijkllmihaa", sum := "38d500516f9206ca685f630f896e5b31d757aa77f1ae1c5d45fe49a96a5c05d7", func := "loop.example/borrowcheck/laws.FnLoopBounds", spec := "fnLoopBounds", unfollowed := true, recurses := true, apart := false, narrowed := true }
def FnLoopBoundsUptoSaid : Prop := fnLoopBoundsUptoRow.holds Try.pinned (OpenSpec.upto fnLoopBoundsSpec)

/-- 'laws.FnPathsFrom', WHERE WHAT IT READS IS OF BULK AT MOST 1048576: true; the input reads as it did. -/
def fnPathsFromUptoRow : OpenClaim := { program := "ytpnaeijkllmihaa", sum := "38d500516f9206ca685f630f896e5b31d757aa77f1ae1c5d45fe49a96a5c05d7", func := "loop.example/borrowcheck/laws.FnPathsFrom", spec := "fnPathsFrom", unfollowed := true, recurses := true, apart := false, narrowed := true }
def FnPathsFromUptoSaid : Prop := fnPathsFromUptoRow.holds Try.pinned (OpenSpec.upto fnPathsFromSpec)

/-- 'laws.FnDominatorsOf', WHERE WHAT IT READS IS OF BULK AT MOST 1048576: true; the input reads as it did. -/
def fnDominatorsOfUptoRow : OpenClaim := { program := "ytpnaeijkllmihaa", sum := "38d500516f9206ca685f630f896e5b31d757aa77f1ae1c5d45fe49a96a5c05d7", func := "loop.example/borrowcheck/laws.FnDominatorsOf", spec := "fnDominatorsOf", unfollowed := true, recurses := true, apart := false, narrowed := true }
def FnDominatorsOfUptoSaid : Prop := fnDominatorsOfUptoRow.holds Try.pinned (OpenSpec.upto fnDominatorsOfSpec)

/-- 'laws.FnOutlives', WHERE WHAT IT READS IS OF BULK AT MOST 1048576: true; the input reads as it did. -/
def fnOutlivesUptoRow : OpenClaim := { program := "ytpnaeijkllmihaa", sum := "38d500516f9206ca685f630f896e5b31d757aa77f1ae1c5d45fe49a96a5c05d7", func := "loop.example/borrowcheck/laws.FnOutlives", spec := "fnOutlives", unfollowed := true, recurses := true, apart := false, narrowed := true }
def FnOutlivesUptoSaid : Prop := fnOutlivesUptoRow.holds Try.pinned (OpenSpec.upto fnOutlivesSpec)

/-- 'laws.FnRegionLoans', WHERE WHAT IT READS IS OF BULK AT MOST 1048576: true; the input reads as it did. -/
def fnRegionLoansUptoRow : OpenClaim := { program := "ytpnaeijkllmihaa", sum := "38d500516f9206ca685f630f896e5b31d757aa77f1ae1c5d45fe49a96a5c05d7", func := "loop.example/borrowcheck/laws.FnRegionLoans", spec := "fnRegionLoans", unfollowed := true, recurses := true, apart := false, narrowed := true }
def FnRegionLoansUptoSaid : Prop := fnRegionLoansUptoRow.holds Try.pinned (OpenSpec.upto fnRegionLoansSpec)

/-- 'laws.FnBoundsOf', WHERE WHAT IT READS IS OF BULK AT MOST 1048576: true; the input reads as it did. -/
def fnBoundsOfUptoRow : OpenClaim := { program := "ytpnaeijkllmihaa", sum := "38d500516f9206ca685f630f896e5b31d757aa77f1ae1c5d45fe49a96a5c05d7", func := "loop.example/borrowcheck/laws.FnBoundsOf", spec := "fnBoundsOf", unfollowed := true, recurses := true, apart := false, narrowed := true }
def FnBoundsOfUptoSaid : Prop := fnBoundsOfUptoRow.holds Try.pinned (OpenSpec.upto fnBoundsOfSpec)

/-- 'laws.FnEndReached', WHERE WHAT IT READS IS OF BULK AT MOST 1048576: true; the input reads as it did. -/
def fnEndReachedUptoRow : OpenClaim := { program := "ytpnaeijkllmihaa", sum := "38d500516f9206ca685f630f896e5b31d757aa77f1ae1c5d45fe49a96a5c05d7", func := "loop.example/borrowcheck/laws.FnEndReached", spec := "fnEndReached", unfollowed := true, recurses := true, apart := false, narrowed := true }
def FnEndReachedUptoSaid : Prop := fnEndReachedUptoRow.holds Try.pinned (OpenSpec.upto fnEndReachedSpec)

/-- 'laws.FnPathsTo', WHERE WHAT IT READS IS OF BULK AT MOST 1048576: true; the input reads as it did. -/
def fnPathsToUptoRow : OpenClaim := { program := "ytpnaeijkllmihaa", sum := "38d500516f9206ca685f630f896e5b31d757aa77f1ae1c5d45fe49a96a5c05d7", func := "loop.example/borrowcheck/laws.FnPathsTo", spec := "fnPathsTo", unfollowed := true, recurses := true, apart := false, narrowed := true }
def FnPathsToUptoSaid : Prop := fnPathsToUptoRow.holds Try.pinned (OpenSpec.upto fnPathsToSpec)

/-- 'laws.FnLoansOf', WHERE WHAT IT READS IS OF BULK AT MOST 1048576: true; the input reads as it did. -/
def fnLoansOfUptoRow : OpenClaim := { program := "ytpnaeijkllmihaa", sum := "38d500516f9206ca685f630f896e5b31d757aa77f1ae1c5d45fe49a96a5c05d7", func := "loop.example/borrowcheck/laws.FnLoansOf", spec := "fnLoansOf", unfollowed := true, recurses := true, apart := false, narrowed := true }
def FnLoansOfUptoSaid : Prop := fnLoansOfUptoRow.holds Try.pinned (OpenSpec.upto fnLoansOfSpec)

/-- 'laws.FnUseOf', WHERE WHAT IT READS IS OF BULK AT MOST 1048576: true; the input reads as it did. -/
def fnUseOfUptoRow : OpenClaim := { program := "ytpnaeijkllmihaa", sum := "38d500516f9206ca685f630f896e5b31d757aa77f1ae1c5d45fe49a96a5c05d7", func := "loop.example/borrowcheck/laws.FnUseOf", spec := "fnUseOf", unfollowed := true, recurses := true, apart := false, narrowed := true }
def FnUseOfUptoSaid : Prop := fnUseOfUptoRow.holds Try.pinned (OpenSpec.upto fnUseOfSpec)

end Rows
end Go.Proofs.Ytpnaeijkllmihaa

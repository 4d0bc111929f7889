/-
  NARROWER THAN 'FOR EVERY INPUT', by the rows' own cells (each row's printed sentence says how): FnExactAlwaysSet: loops · FnExactMaybeSet: loops · FnExactNumberOf: loops · FnExactUnsetUses: loops · FnExactGivesOf: loops · FnExactOpenIssues: loops · FnExactSettersOf: loops · FnExactUsersOf: loops · FnExactNumbersOf: loops · FnExactCellsOf: loops · FnExactPlacedLoans: loops · FnExactLoansIn: loops · FnExactAccessesOf: loops.
  DERIVED. THE GIVEN ROWS OF THIS SEAT. 13 by the template 'for every input the law returns true; each argument reads behind the call as it read before'; 0 by the template 'total and deterministic' (their statements: YtadlnjglpigjmaaTotals.lean).
  GIVEN WITH THE SEED: the statements are not yours to turn. If you find one false, say at which input.
  Laid BY PROGRAM, IN A SANDBOX (cutbox-rows.mjs): the forced cells as the released guide's own fill.sh prints them over the translation 6a80a8e5ac0be5a1… (all of the seat's roots in one cut). By AI agents, Wed Nov 11 2026. No macro, syntax, notation, axiom, sorry.
-/
import Derived.Test.YtadlnjglpigjmaaChecked
import GoSem.Claim
import GoSem.ClaimJoined
import GoSem.ClaimMapViews
import Derived.JoinedTies
import Derived.KernelRfl
namespace Go.Proofs.Ytadlnjglpigjmaa
/- THE CELL 'sum', in the pinned program and in every row, IS THE sha256 OF THE DUMP (.gsa) THAT YtadlnjglpigjmaaProg.lean LOADS. Nothing in Lean hashes anything: it is a label: what it is worth is what the hold of that sum in a sandbox is worth. -/
noncomputable def Try.pinned : Pinned := { name := "ytadlnjglpigjmaa", sum := "6a80a8e5ac0be5a1d1061a023774761536f1615c277d3873e1bda66518f88ccb", checked := Try.checked }
namespace Rows
def none {H : Type} : Left H := { results := [], args := [] }

/-- 'laws.FnExactAlwaysSet': WHATEVER THE INPUT: true; the input reads as it did. -/
def fnExactAlwaysSetSpec : ChangeSpec := { name := "fnExactAlwaysSet", fn := fun _ => fun
  | [d1, d2] => { results := [.lit (.bool true)], args := [d1, d2] }
  | _ => none }
def fnExactAlwaysSetRow : OpenClaim := { program := "ytadlnjglpigjmaa", sum := "6a80a8e5ac0be5a1d1061a023774761536f1615c277d3873e1bda66518f88ccb", func := "loop.example/borrowcheck/laws.FnExactAlwaysSet", spec := "fnExactAlwaysSet", unfollowed := true, recurses := true, loops := true, apart := false }
def FnExactAlwaysSetSaid : Prop := fnExactAlwaysSetRow.holds Try.pinned (OpenSpec.ofChange fnExactAlwaysSetSpec)

/-- ITS FALSE NEIGHBOUR: 'it returns false'. Refute it at one input. -/
def fnExactAlwaysSetWrong : ChangeSpec := { name := "fnExactAlwaysSet", fn := fun _ => fun
  | [d1, d2] => { results := [.lit (.bool false)], args := [d1, d2] }
  | _ => none }
def FnExactAlwaysSetWrongFalsely : Prop := fnExactAlwaysSetRow.holds Try.pinned (OpenSpec.ofChange fnExactAlwaysSetWrong)

/-- 'laws.FnExactMaybeSet': WHATEVER THE INPUT: true; the input reads as it did. -/
def fnExactMaybeSetSpec : ChangeSpec := { name := "fnExactMaybeSet", fn := fun _ => fun
  | [d1, d2] => { results := [.lit (.bool true)], args := [d1, d2] }
  | _ => none }
def fnExactMaybeSetRow : OpenClaim := { program := "ytadlnjglpigjmaa", sum := "6a80a8e5ac0be5a1d1061a023774761536f1615c277d3873e1bda66518f88ccb", func := "loop.example/borrowcheck/laws.FnExactMaybeSet", spec := "fnExactMaybeSet", unfollowed := true, recurses := true, loops := true, apart := false }
def FnExactMaybeSetSaid : Prop := fnExactMaybeSetRow.holds Try.pinned (OpenSpec.ofChange fnExactMaybeSetSpec)

/-- ITS FALSE NEIGHBOUR: 'it returns false'. Refute it at one input. -/
def fnExactMaybeSetWrong : ChangeSpec := { name := "fnExactMaybeSet", fn := fun _ => fun
  | [d1, d2] => { results := [.lit (.bool false)], args := [d1, d2] }
  | _ => none }
def FnExactMaybeSetWrongFalsely : Prop := fnExactMaybeSetRow.holds Try.pinned (OpenSpec.ofChange fnExactMaybeSetWrong)

/-- 'laws.FnExactNumberOf': WHATEVER THE INPUT: true; the input reads as it did. -/
def fnExactNumberOfSpec : ChangeSpec := { name := "fnExactNumberOf", fn := fun _ => fun
  | [d1, d2, d3] => { results := [.lit (.bool true)], args := [d1, d2, d3] }
  | _ => none }
def fnExactNumberOfRow : OpenClaim := { program := "ytadlnjglpigjmaa", sum := "6a80a8e5ac0be5a1d1061a023774761536f1615c277d3873e1bda66518f88ccb", func := "loop.example/borrowcheck/laws.FnExactNumberOf", spec := "fnExactNumberOf", unfollowed := true, recurses := true, loops := true, apart := false }
def FnExactNumberOfSaid : Prop := fnExactNumberOfRow.holds Try.pinned (OpenSpec.ofChange fnExactNumberOfSpec)

/-- ITS FALSE NEIGHBOUR: 'it returns false'. Refute it at one input. -/
def fnExactNumberOfWrong : ChangeSpec := { name := "fnExactNumberOf", fn := fun _ => fun
  | [d1, d2, d3] => { results := [.lit (.bool false)], args := [d1, d2, d3] }
  | _ => none }
def FnExactNumberOfWrongFalsely : Prop := fnExactNumberOfRow.holds Try.pinned (OpenSpec.ofChange fnExactNumberOfWrong)

/-- 'laws.FnExactUnsetUses': WHATEVER THE INPUT: true; the input reads as it did. -/
def fnExactUnsetUsesSpec : ChangeSpec := { name := "fnExactUnsetUses", fn := fun _ => fun
  | [d] => { results := [.lit (.bool true)], args := [d] }
  | _ => none }
def fnExactUnsetUsesRow : OpenClaim := { program := "ytadlnjglpigjmaa", sum := "6a80a8e5ac0be5a1d1061a023774761536f1615c277d3873e1bda66518f88ccb", func := "loop.example/borrowcheck/laws.FnExactUnsetUses", spec := "fnExactUnsetUses", unfollowed := true, recurses := true, loops := true, apart := false }
def FnExactUnsetUsesSaid : Prop := fnExactUnsetUsesRow.holds Try.pinned (OpenSpec.ofChange fnExactUnsetUsesSpec)

/-- ITS FALSE NEIGHBOUR: 'it returns false'. Refute it at one input. -/
def fnExactUnsetUsesWrong : ChangeSpec := { name := "fnExactUnsetUses", fn := fun _ => fun
  | [d] => { results := [.lit (.bool false)], args := [d] }
  | _ => none }
def FnExactUnsetUsesWrongFalsely : Prop := fnExactUnsetUsesRow.holds Try.pinned (OpenSpec.ofChange fnExactUnsetUsesWrong)

/-- 'laws.FnExactGivesOf': WHATEVER THE INPUT: true; the input reads as it did. -/
def fnExactGivesOfSpec : ChangeSpec := { name := "fnExactGivesOf", fn := fun _ => fun
  | [d1, d2] => { results := [.lit (.bool true)], args := [d1, d2] }
  | _ => none }
def fnExactGivesOfRow : OpenClaim := { program := "ytadlnjglpigjmaa", sum := "6a80a8e5ac0be5a1d1061a023774761536f1615c277d3873e1bda66518f88ccb", func := "loop.example/borrowcheck/laws.FnExactGivesOf", spec := "fnExactGivesOf", unfollowed := true, recurses := true, loops := true, apart := false }
def FnExactGivesOfSaid : Prop := fnExactGivesOfRow.holds Try.pinned (OpenSpec.ofChange fnExactGivesOfSpec)

/-- ITS FALSE NEIGHBOUR: 'it returns false'. Refute it at one input. -/
def fnExactGivesOfWrong : ChangeSpec := { name := "fnExactGivesOf", fn := fun _ => fun
  | [d1, d2] => { results := [.lit (.bool false)], args := [d1, d2] }
  | _ => none }
def FnExactGivesOfWrongFalsely : Prop := fnExactGivesOfRow.holds Try.pinned (OpenSpec.ofChange fnExactGivesOfWrong)

/-- 'laws.FnExactOpenIssues': WHATEVER THE INPUT: true; the input reads as it did. -/
def fnExactOpenIssuesSpec : ChangeSpec := { name := "fnExactOpenIssues", fn := fun _ => fun
  | [d1, d2] => { results := [.lit (.bool true)], args := [d1, d2] }
  | _ => none }
def fnExactOpenIssuesRow : OpenClaim := { program := "ytadlnjglpigjmaa", sum := "6a80a8e5ac0be5a1d1061a023774761536f1615c277d3873e1bda66518f88ccb", func := "loop.example/borrowcheck/laws.FnExactOpenIssues", spec := "fnExactOpenIssues", unfollowed := true, recurses := true, loops := true, apart := false }
def FnExactOpenIssuesSaid : Prop := fnExactOpenIssuesRow.holds Try.pinned (OpenSpec.ofChange fnExactOpenIssuesSpec)

/-- ITS FALSE NEIGHBOUR: 'it returns false'. Refute it at one input. -/
def fnExactOpenIssuesWrong : ChangeSpec := { name := "fnExactOpenIssues", fn := fun _ => fun
  | [d1, d2] => { results := [.lit (.bool false)], args := [d1, d2] }
  | _ => none }
def FnExactOpenIssuesWrongFalsely : Prop := fnExactOpenIssuesRow.holds Try.pinned (OpenSpec.ofChange fnExactOpenIssuesWrong)

/-- 'laws.FnExactSettersOf': WHATEVER THE INPUT: true; the input reads as it did. -/
def fnExactSettersOfSpec : ChangeSpec := { name := "fnExactSettersOf", fn := fun _ => fun
  | [d1, d2, d3] => { results := [.lit (.bool true)], args := [d1, d2, d3] }
  | _ => none }
def fnExactSettersOfRow : OpenClaim := { program := "ytadlnjglpigjmaa", sum := "6a80a8e5ac0be5a1d1061a023774761536f1615c277d3873e1bda66518f88ccb", func := "loop.example/borrowcheck/laws.FnExactSettersOf", spec := "fnExactSettersOf", unfollowed := true, recurses := true, loops := true, apart := false }
def FnExactSettersOfSaid : Prop := fnExactSettersOfRow.holds Try.pinned (OpenSpec.ofChange fnExactSettersOfSpec)

/-- ITS FALSE NEIGHBOUR: 'it returns false'. Refute it at one input. -/
def fnExactSettersOfWrong : ChangeSpec := { name := "fnExactSettersOf", fn := fun _ => fun
  | [d1, d2, d3] => { results := [.lit (.bool false)], args := [d1, d2, d3] }
  | _ => none }
def FnExactSettersOfWrongFalsely : Prop := fnExactSettersOfRow.holds Try.pinned (OpenSpec.ofChange fnExactSettersOfWrong)

/-- 'laws.FnExactUsersOf': WHATEVER THE INPUT: true; the input reads as it did. -/
def fnExactUsersOfSpec : ChangeSpec := { name := "fnExactUsersOf", fn := fun _ => fun
  | [d1, d2] => { results := [.lit (.bool true)], args := [d1, d2] }
  | _ => none }
def fnExactUsersOfRow : OpenClaim := { program := "ytadlnjglpigjmaa", sum := "6a80a8e5ac0be5a1d1061a023774761536f1615c277d3873e1bda66518f88ccb", func := "loop.example/borrowcheck/laws.FnExactUsersOf", spec := "fnExactUsersOf", unfollowed := true, recurses := true, loops := true, apart := false }
def FnExactUsersOfSaid : Prop := fnExactUsersOfRow.holds Try.pinned (OpenSpec.ofChange fnExactUsersOfSpec)

/-- ITS FALSE NEIGHBOUR: 'it returns false'. Refute it at one input. -/
def fnExactUsersOfWrong : ChangeSpec := { name := "fnExactUsersOf", fn := fun _ => fun
  | [d1, d2] => { results := [.lit (.bool false)], args := [d1, d2] }
  | _ => none }
def FnExactUsersOfWrongFalsely : Prop := fnExactUsersOfRow.holds Try.pinned (OpenSpec.ofChange fnExactUsersOfWrong)

/-- 'laws.FnExactNumbersOf': WHATEVER THE INPUT: true; the input reads as it did. -/
def fnExactNumbersOfSpec : ChangeSpec := { name := "fnExactNumbersOf", fn := fun _ => fun
  | [d1, d2, d3] => { results := [.lit (.bool true)], args := [d1, d2, d3] }
  | _ => none }
def fnExactNumbersOfRow : OpenClaim := { program := "ytadlnjglpigjmaa", sum := "6a80a8e5ac0be5a1d1061a023774761536f1615c277d3873e1bda66518f88ccb", func := "loop.example/borrowcheck/laws.FnExactNumbersOf", spec := "fnExactNumbersOf", unfollowed := true, recurses := true, loops := true, apart := false }
def FnExactNumbersOfSaid : Prop := fnExactNumbersOfRow.holds Try.pinned (OpenSpec.ofChange fnExactNumbersOfSpec)

/-- ITS FALSE NEIGHBOUR: 'it returns false'. Refute it at one input. -/
def fnExactNumbersOfWrong : ChangeSpec := { name := "fnExactNumbersOf", fn := fun _ => fun
  | [d1, d2, d3] => { results := [.lit (.bool false)], args := [d1, d2, d3] }
  | _ => none }
def FnExactNumbersOfWrongFalsely : Prop := fnExactNumbersOfRow.holds Try.pinned (OpenSpec.ofChange fnExactNumbersOfWrong)

/-- 'laws.FnExactCellsOf': WHATEVER THE INPUT: true; the input reads as it did. -/
def fnExactCellsOfSpec : ChangeSpec := { name := "fnExactCellsOf", fn := fun _ => fun
  | [d1, d2, d3] => { results := [.lit (.bool true)], args := [d1, d2, d3] }
  | _ => none }
def fnExactCellsOfRow : OpenClaim := { program := "ytadlnjglpigjmaa", sum := "6a80a8e5ac0be5a1d1061a023774761536f1615c277d3873e1bda66518f88ccb", func := "loop.example/borrowcheck/laws.FnExactCellsOf", spec := "fnExactCellsOf", unfollowed := true, recurses := true, loops := true, apart := false }
def FnExactCellsOfSaid : Prop := fnExactCellsOfRow.holds Try.pinned (OpenSpec.ofChange fnExactCellsOfSpec)

/-- ITS FALSE NEIGHBOUR: 'it returns false'. Refute it at one input. -/
def fnExactCellsOfWrong : ChangeSpec := { name := "fnExactCellsOf", fn := fun _ => fun
  | [d1, d2, d3] => { results := [.lit (.bool false)], args := [d1, d2, d3] }
  | _ => none }
def FnExactCellsOfWrongFalsely : Prop := fnExactCellsOfRow.holds Try.pinned (OpenSpec.ofChange fnExactCellsOfWrong)

/-- 'laws.FnExactPlacedLoans': WHATEVER THE INPUT: true; the input reads as it did. -/
def fnExactPlacedLoansSpec : ChangeSpec := { name := "fnExactPlacedLoans", fn := fun _ => fun
  | [d1, d2] => { results := [.lit (.bool true)], args := [d1, d2] }
  | _ => none }
def fnExactPlacedLoansRow : OpenClaim := { program := "ytadlnjglpigjmaa", sum := "6a80a8e5ac0be5a1d1061a023774761536f1615c277d3873e1bda66518f88ccb", func := "loop.example/borrowcheck/laws.FnExactPlacedLoans", spec := "fnExactPlacedLoans", unfollowed := true, recurses := true, loops := true, apart := false }
def FnExactPlacedLoansSaid : Prop := fnExactPlacedLoansRow.holds Try.pinned (OpenSpec.ofChange fnExactPlacedLoansSpec)

/-- ITS FALSE NEIGHBOUR: 'it returns false'. Refute it at one input. -/
def fnExactPlacedLoansWrong : ChangeSpec := { name := "fnExactPlacedLoans", fn := fun _ => fun
  | [d1, d2] => { results := [.lit (.bool false)], args := [d1, d2] }
  | _ => none }
def FnExactPlacedLoansWrongFalsely : Prop := fnExactPlacedLoansRow.holds Try.pinned (OpenSpec.ofChange fnExactPlacedLoansWrong)

/-- 'laws.FnExactLoansIn': WHATEVER THE INPUT: true; the input reads as it did. -/
def fnExactLoansInSpec : ChangeSpec := { name := "fnExactLoansIn", fn := fun _ => fun
  | [d1, d2, d3] => { results := [.lit (.bool true)], args := [d1, d2, d3] }
  | _ => none }
def fnExactLoansInRow : OpenClaim := { program := "ytadlnjglpigjmaa", sum := "6a80a8e5ac0be5a1d1061a023774761536f1615c277d3873e1bda66518f88ccb", func := "loop.example/borrowcheck/laws.FnExactLoansIn", spec := "fnExactLoansIn", unfollowed := true, recurses := true, loops := true, apart := false }
def FnExactLoansInSaid : Prop := fnExactLoansInRow.holds Try.pinned (OpenSpec.ofChange fnExactLoansInSpec)

/-- ITS FALSE NEIGHBOUR: 'it returns false'. Refute it at one input. -/
def fnExactLoansInWrong : ChangeSpec := { name := "fnExactLoansIn", fn := fun _ => fun
  | [d1, d2, d3] => { results := [.lit (.bool false)], args := [d1, d2, d3] }
  | _ => none }
def FnExactLoansInWrongFalsely : Prop := fnExactLoansInRow.holds Try.pinned (OpenSpec.ofChange fnExactLoansInWrong)

/-- 'laws.FnExactAccessesOf': WHATEVER THE INPUT: true; the input reads as it did. -/
def fnExactAccessesOfSpec : ChangeSpec := { name := "fnExactAccessesOf", fn := fun _ => fun
  | [d1, d2] => { results := [.lit (.bool true)], args := [d1, d2] }
  | _ => none }
def fnExactAccessesOfRow : OpenClaim := { program := "ytadlnjglpigjmaa", sum := "6a80a8e5ac0be5a1d1061a023774761536f1615c277d3873e1bda66518f88ccb", func := "loop.example/borrowcheck/laws.FnExactAccessesOf", spec := "fnExactAccessesOf", unfollowed := true, recurses := true, loops := true, apart := false }
def FnExactAccessesOfSaid : Prop := fnExactAccessesOfRow.holds Try.pinned (OpenSpec.ofChange fnExactAccessesOfSpec)

/-- ITS FALSE NEIGHBOUR: 'it returns false'. Refute it at one input. -/
def fnExactAccessesOfWrong : ChangeSpec := { name := "fnExactAccessesOf", fn := fun _ => fun
  | [d1, d2] => { results := [.lit (.bool false)], args := [d1, d2] }
  | _ => none }
def FnExactAccessesOfWrongFalsely : Prop := fnExactAccessesOfRow.holds Try.pinned (OpenSpec.ofChange fnExactAccessesOfWrong)

/- THE SECOND FORM. 'bulk': how many values and letters a reading holds, each counted each time it is reached (what is shared counts as often as it is met; a slice's spare places count too). A statement '..UptoSaid' is the law's where the arguments, and the package variables that the reading takes, are together of bulk at most 1048576: NARROWER than '..Said'. Prove '..Said' where nothing that the law and all that it calls make is longer than what came in: it says more and counts as full. Else prove '..UptoSaid'. A law counts once. -/
mutual
def uptoBulk {H : Type} : DataW H → Nat
  | .lit (.string bytes) => bytes.length + 1
  | .lit _ => 1
  | .nil => 1
  | .ptr d => uptoBulk d + 1
  | .slice elems spare => uptoBulkAll elems + uptoBulkAll spare + 1
  | .agg parts => uptoBulkAll parts + 1
  | .iface _ d => uptoBulk d + 1
  | .map entries => uptoBulkEntries entries + 1
  | .held _ => 1
def uptoBulkAll {H : Type} : List (DataW H) → Nat
  | [] => 0
  | d :: r => uptoBulk d + uptoBulkAll r
def uptoBulkEntries {H : Type} : List (Lit × DataW H) → Nat
  | [] => 0
  | x :: r => uptoBulkEntry x + uptoBulkEntries r
def uptoBulkEntry {H : Type} : Lit × DataW H → Nat
  | (.string bytes, d) => bytes.length + uptoBulk d + 1
  | (_, d) => uptoBulk d + 1
 end
def uptoSmall : (H : Type) → List (DataW H) → Bool := fun _ ds => decide (uptoBulkAll ds ≤ 1048576)
def OpenSpec.upto (s : _root_.Go.ChangeSpec) : _root_.Go.OpenSpec := { _root_.Go.OpenSpec.ofChange s with cond := some uptoSmall }

/-- 'laws.FnExactAlwaysSet', WHERE WHAT IT READS IS OF BULK AT MOST 1048576: true; the input reads as it did. -/
def fnExactAlwaysSetUptoRow : OpenClaim := { program := "ytadlnjglpigjmaa", sum := "6a80a8e5ac0be5a1d1061a023774761536f1615c277d3873e1bda66518f88ccb", func := "loop.example/borrowcheck/laws.FnExactAlwaysSet", spec := "fnExactAlwaysSet", unfollowed := true, recurses := true, loops := true, apart := false, narrowed := true }
def FnExactAlwaysSetUptoSaid : Prop := fnExactAlwaysSetUptoRow.holds Try.pinned (OpenSpec.upto fnExactAlwaysSetSpec)

/-- 'laws.FnExactMaybeSet', WHERE WHAT IT READS IS OF BULK AT MOST 1048576: true; the input reads as it did. -/
def fnExactMaybeSetUptoRow : OpenClaim := { program := "ytadlnjglpigjmaa", sum := "6a80a8e5ac0be5a1d1061a023774761536f1615c277d3873e1bda66518f88ccb", func := "loop.example/borrowcheck/laws.FnExactMaybeSet", spec := "fnExactMaybeSet", unfollowed := true, recurses := true, loops := true, apart := false, narrowed := true }
def FnExactMaybeSetUptoSaid : Prop := fnExactMaybeSetUptoRow.holds Try.pinned (OpenSpec.upto fnExactMaybeSetSpec)

/-- 'laws.FnExactNumberOf', WHERE WHAT IT READS IS OF BULK AT MOST 1048576: true; the input reads as it did. -/
def fnExactNumberOfUptoRow : OpenClaim := { program := "ytadlnjglpigjmaa", sum := "6a80a8e5ac0be5a1d1061a023774761536f1615c277d3873e1bda66518f88ccb", func := "loop.example/borrowcheck/laws.FnExactNumberOf", spec := "fnExactNumberOf", unfollowed := true, recurses := true, loops := true, apart := false, narrowed := true }
def FnExactNumberOfUptoSaid : Prop := fnExactNumberOfUptoRow.holds Try.pinned (OpenSpec.upto fnExactNumberOfSpec)

/-- 'laws.FnExactUnsetUses', WHERE WHAT IT READS IS OF BULK AT MOST 1048576: true; the input reads as it did. -/
def fnExactUnsetUsesUptoRow : OpenClaim := { program := "ytadlnjglpigjmaa", sum := "6a80a8e5ac0be5a1d1061a023774761536f1615c277d3873e1bda66518f88ccb", func := "loop.example/borrowcheck/laws.FnExactUnsetUses", spec := "fnExactUnsetUses", unfollowed := true, recurses := true, loops := true, apart := false, narrowed := true }
def FnExactUnsetUsesUptoSaid : Prop := fnExactUnsetUsesUptoRow.holds Try.pinned (OpenSpec.upto fnExactUnsetUsesSpec)

/-- 'laws.FnExactGivesOf', WHERE WHAT IT READS IS OF BULK AT MOST 1048576: true; the input reads as it did. -/
def fnExactGivesOfUptoRow : OpenClaim := { program := "ytadlnjglpigjmaa", sum := "6a80a8e5ac0be5a1d1061a023774761536f1615c277d3873e1bda66518f88ccb", func := "loop.example/borrowcheck/laws.FnExactGivesOf", spec := "fnExactGivesOf", unfollowed := true, recurses := true, loops := true, apart := false, narrowed := true }
def FnExactGivesOfUptoSaid : Prop := fnExactGivesOfUptoRow.holds Try.pinned (OpenSpec.upto fnExactGivesOfSpec)

/-- 'laws.FnExactOpenIssues', WHERE WHAT IT READS IS OF BULK AT MOST 1048576: true; the input reads as it did. -/
def fnExactOpenIssuesUptoRow : OpenClaim := { program := "ytadlnjglpigjmaa", sum := "6a80a8e5ac0be5a1d1061a023774761536f1615c277d3873e1bda66518f88ccb", func := "loop.example/borrowcheck/laws.FnExactOpenIssues", spec := "fnExactOpenIssues", unfollowed := true, recurses := true, loops := true, apart := false, narrowed := true }
def FnExactOpenIssuesUptoSaid : Prop := fnExactOpenIssuesUptoRow.holds Try.pinned (OpenSpec.upto fnExactOpenIssuesSpec)

/-- 'laws.FnExactSettersOf', WHERE WHAT IT READS IS OF BULK AT MOST 1048576: true; the input reads as it did. -/
def fnExactSettersOfUptoRow : OpenClaim := { program := "ytadlnjglpigjmaa", sum := "6a80a8e5ac0be5a1d1061a023774761536f1615c277d3873e1bda66518f88ccb", func := "loop.example/borrowcheck/laws.FnExactSettersOf", spec := "fnExactSettersOf", unfollowed := true, recurses := true, loops := true, apart := false, narrowed := true }
def FnExactSettersOfUptoSaid : Prop := fnExactSettersOfUptoRow.holds Try.pinned (OpenSpec.upto fnExactSettersOfSpec)

/-- 'laws.FnExactUsersOf', WHERE WHAT IT READS IS OF BULK AT MOST 1048576: true; the input reads as it did. -/
def fnExactUsersOfUptoRow : OpenClaim := { program := "ytadlnjglpigjmaa", sum := "6a80a8e5ac0be5a1d1061a023774761536f1615c277d3873e1bda66518f88ccb", func := "loop.example/borrowcheck/laws.FnExactUsersOf", spec := "fnExactUsersOf", unfollowed := true, recurses := true, loops := true, apart := false, narrowed := true }
def FnExactUsersOfUptoSaid : Prop := fnExactUsersOfUptoRow.holds Try.pinned (OpenSpec.upto fnExactUsersOfSpec)

/-- 'laws.FnExactNumbersOf', WHERE WHAT IT READS IS OF BULK AT MOST 1048576: true; the input reads as it did. -/
def fnExactNumbersOfUptoRow : OpenClaim := { program := "ytadlnjglpigjmaa", sum := "6a80a8e5ac0be5a1d1061a023774761536f1615c277d3873e1bda66518f88ccb", func := "loop.example/borrowcheck/laws.FnExactNumbersOf", spec := "fnExactNumbersOf", unfollowed := true, recurses := true, loops := true, apart := false, narrowed := true }
def FnExactNumbersOfUptoSaid : Prop := fnExactNumbersOfUptoRow.holds Try.pinned (OpenSpec.upto fnExactNumbersOfSpec)

/-- 'laws.FnExactCellsOf', WHERE WHAT IT READS IS OF BULK AT MOST 1048576: true; the input reads as it did. -/
def fnExactCellsOfUptoRow : OpenClaim := { program := "ytadlnjglpigjmaa", sum := "6a80a8e5ac0be5a1d1061a023774761536f1615c277d3873e1bda66518f88ccb", func := "loop.example/borrowcheck/laws.FnExactCellsOf", spec := "fnExactCellsOf", unfollowed := true, recurses := true, loops := true, apart := false, narrowed := true }
def FnExactCellsOfUptoSaid : Prop := fnExactCellsOfUptoRow.holds Try.pinned (OpenSpec.upto fnExactCellsOfSpec)

/-- 'laws.FnExactPlacedLoans', WHERE WHAT IT READS IS OF BULK AT MOST 1048576: true; the input reads as it did. -/
def fnExactPlacedLoansUptoRow : OpenClaim := { program := "ytadlnjglpigjmaa", sum := "6a80a8e5ac0be5a1d1061a023774761536f1615c277d3873e1bda66518f88ccb", func := "loop.example/borrowcheck/laws.FnExactPlacedLoans", spec := "fnExactPlacedLoans", unfollowed := true, recurses := true, loops := true, apart := false, narrowed := true }
def FnExactPlacedLoansUptoSaid : Prop := fnExactPlacedLoansUptoRow.holds Try.pinned (OpenSpec.upto fnExactPlacedLoansSpec)

/-- 'laws.FnExactLoansIn', WHERE WHAT IT READS IS OF BULK AT MOST 1048576: true; the input reads as it did. -/
def fnExactLoansInUptoRow : OpenClaim := { program := "ytadlnjglpigjmaa", sum := "6a80a8e5ac0be5a1d1061a023774761536f1615c277d3873e1bda66518f88ccb", func := "loop.example/borrowcheck/laws.FnExactLoansIn", spec := "fnExactLoansIn", unfollowed := true, recurses := true, loops := true, apart := false, narrowed := true }
def FnExactLoansInUptoSaid : Prop := fnExactLoansInUptoRow.holds Try.pinned (OpenSpec.upto fnExactLoansInSpec)

/-- 'laws.FnExactAccessesOf', WHERE WHAT IT READS IS OF BULK AT MOST 1048576: true; the input reads as it did. -/
def fnExactAccessesOfUptoRow : OpenClaim := { program := "ytadlnjglpigjmaa", sum := "6a80a8e5ac0be5a1d1061a023774761536f1615c277d3873e1bda66518f88ccb", func := "loop.example/borrowcheck/laws.FnExactAccessesOf", spec := "fnExactAccessesOf", unfollowed := true, recurses := true, loops := true, apart := false, narrowed := true }
def FnExactAccessesOfUptoSaid : Prop := fnExactAccessesOfUptoRow.holds Try.pinned (OpenSpec.upto fnExactAccessesOfSpec)

end Rows
end Go.Proofs.Ytadlnjglpigjmaa

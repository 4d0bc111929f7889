/- Walks of CountStmts and CountChoices, in the program. -/
import Derived.Test.YtadlnjglpigjmaaY4

namespace Go.Proofs.Ytadlnjglpigjmaa

open Go.RowKit

theorem wrap3 (q a b : Nat) (h : q + a + b + 1 ≤ 1000001) : IntKind.i64.wrap ((q : Int) + IntKind.i64.wrap (IntKind.i64.wrap (1 + (a : Int)) + (b : Int))) = ((q + (1 + (a + b)) : Nat) : Int) := by
  have e1 : IntKind.i64.wrap (1 + (a : Int)) = ((1 + a : Nat) : Int) := by rw [IntWalk.i64_in _ (by omega)]; omega
  have e2 : IntKind.i64.wrap (((1 + a : Nat) : Int) + (b : Int)) = ((1 + a + b : Nat) : Int) := by rw [IntWalk.i64_in _ (by omega)]; omega
  rw [e1, e2, IntWalk.i64_in _ (by omega)]; omega
/-- What CountStmts says. -/
def cntOf (p : Pr) : Nat := if validP p = true then St.count p.body else 0
theorem cntOf_in {p : Pr} (h : validP p = true) : cntOf p = St.count p.body := by unfold cntOf; rw [if_pos h]
theorem cntOf_out {p : Pr} (h : validP p = false) : cntOf p = 0 := by unfold cntOf; rw [h]; rfl
theorem chs_le (l : List Pt) : chs l ≤ l.length := List.countP_le_length
theorem chs_take {l : List Pt} {j : Nat} (h : j < l.length) : chs (l.take (j + 1)) = chs (l.take j) + (if (l[j].next.length == 2) = true then 1 else 0) := by
  rw [List.take_succ_eq_append_getElem h, chs_app]
  simp [chs, List.countP_cons]
end Go.Proofs.Ytadlnjglpigjmaa

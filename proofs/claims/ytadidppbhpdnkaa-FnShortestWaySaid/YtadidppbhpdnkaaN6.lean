/- LoansOf, of the program and of the reference: both hand back the same list. -/
import Derived.Test.YtadidppbhpdnkaaMB

import Derived.Test.YtadidppbhpdnkaaN5

import Derived.Deep.RegionLaw

namespace Go.Proofs.Ytadidppbhpdnkaa

open Go.RowKit

/-- The rows that f gives for the numbers below j. -/
def collR (f : Nat → List (List Value)) : Nat → List (List Value)
  | 0 => []
  | j + 1 => collR f j ++ f j
theorem collR_len {f : Nat → List (List Value)} {m : Nat} (h : ∀ j, (f j).length ≤ m) : ∀ j, (collR f j).length ≤ m * j
  | 0 => by simp [collR]
  | j + 1 => by
    have := collR_len h j
    have := h j
    simp only [collR, List.length_append, Nat.mul_add]
    omega
theorem collR_mem {f : Nat → List (List Value)} {P : List Value → Prop} (h : ∀ j, ∀ r ∈ f j, P r) : ∀ j, ∀ r ∈ collR f j, P r
  | 0, r, hr => by simp [collR] at hr
  | j + 1, r, hr => by
    rcases List.mem_append.1 hr with hr | hr
    · exact collR_mem h j r hr
    · exact h j r hr
theorem collR_none {f : Nat → List (List Value)} {j : Nat} (h : f j = []) : collR f (j + 1) = collR f j := by simp [collR, h]
theorem collR_one {f : Nat → List (List Value)} {j : Nat} {r : List Value} (h : f j = [r]) : collR f (j + 1) = collR f j ++ [r] := by simp [collR, h]

/-- The loan at a point, if it is one. -/
def loanRow (L : List Pt) (k : Nat) : List (List Value) :=
  if ((ptAt L k).op == 4 || (ptAt L k).op == 5) = true then [[.int .i64 k, .bool ((ptAt L k).op == 5), .int .i64 (ptAt L k).y]] else []
/-- What LoansOf says. -/
def loansOf (p : Pr) : List (List Value) := collR (loanRow (ptsOf p)) (ptsOf p).length
theorem loanRow_len (L : List Pt) (j : Nat) : (loanRow L j).length ≤ 1 := by unfold loanRow; split <;> simp
theorem loansOf_len (p : Pr) : (loansOf p).length ≤ 1048576 := by
  have := collR_len (loanRow_len (ptsOf p)) (ptsOf p).length
  have := ptsOf_le p
  unfold loansOf
  omega
theorem loanRow_of {L : List Pt} {k : Nat} (hk : k < L.length) {q : Pt} (hq : L[k] = q) : loanRow L k = if (q.op == 4 || q.op == 5) = true then [[.int .i64 k, .bool (q.op == 5), .int .i64 q.y]] else [] := by
  unfold loanRow; rw [ptAt_get hk, hq]
theorem row_one3 (a : Int) (b : Bool) (c : Int) : ∀ u ∈ [Value.int .i64 a, .bool b, .int .i64 c], u.oneCell' = true := by
  intro u hu; simp at hu; rcases hu with rfl | rfl | rfl <;> rfl

end Go.Proofs.Ytadidppbhpdnkaa

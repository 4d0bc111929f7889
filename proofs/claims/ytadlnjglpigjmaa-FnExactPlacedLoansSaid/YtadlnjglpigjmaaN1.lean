/- DominatorsOf, of the program and of the reference: both hand back the same list. -/
import Derived.Test.YtadlnjglpigjmaaR6

import Derived.Test.YtadlnjglpigjmaaM3

namespace Go.Proofs.Ytadlnjglpigjmaa

open Go.RowKit

/-- What DominatorsOf says. -/
noncomputable def domsOf (p : Pr) (b : Int) : List Int := if hasTwo p b b = true then coll (fun a => domL (ptsOf p) a b.toNat) (ptsOf p).length else []
theorem domsOf_len (p : Pr) (b : Int) : (domsOf p b).length ≤ 1048576 := by
  unfold domsOf
  split
  · have := coll_le (fun a => domL (ptsOf p) a b.toNat) (ptsOf p).length
    have := ptsOf_le p
    omega
  · simp
theorem domsOf_in {p : Pr} {k : Nat} (h : hasTwo p k k = true) : domsOf p k = coll (fun a => domL (ptsOf p) a k) (ptsOf p).length := by simp [domsOf, h]
theorem domsOf_out {p : Pr} {b : Int} (h : hasTwo p b b = false) : domsOf p b = [] := by simp [domsOf, h]

/-- One point, as graphOf takes it. -/
theorem graphOk_one (p : Pr) (b : Int) : graphOk p [b] = hasTwo p b b := by
  unfold graphOk hasTwo ptsOf
  cases h : validP p with
  | true => rw [Bool.eq_iff_iff]; simp [within]; omega
  | false => rw [Bool.eq_iff_iff]; simp
theorem inAt_one (w : World) (A : Obj) (a : Int) : InAt ((w.alloc A).alloc (.cells #[.int .i64 a] 3)) Any [a] (some ⟨w.heap.size + 1, 0, none⟩) := by
  refine InAt.of fun j hj => ⟨trivial, ?_⟩
  rw [cell_of_row _ _ _ _ _ _ (heap2_1 _ _ _)]
  have : j = 0 := by simp at hj; omega
  subst this; rfl
end Go.Proofs.Ytadlnjglpigjmaa

/- How a point uses a variable: walks of UseOf, in the program and in the reference. -/
/- UseOf of the program and of the reference: both hand back useOf, whatever they are given. -/
import Derived.Test.YtadidppbhpdnkaaS1

import Derived.Deep.RegionWith

import Derived.Deep.DeepCutAuto

namespace Go.Proofs.Ytadidppbhpdnkaa

open Go.RowKit

/-- How a point with the given op, x and y uses the variable v of type t. -/
def useK (t op x y v : Int) : Int :=
  if op = 3 then (if y = v then (if t = 2 ∨ t = 4 then 2 else 1) else 0)
  else if op = 4 ∨ op = 5 ∨ op = 6 then (if y = v then 3 else 0)
  else if op = 7 then (if x = v then 3 else if y = v then 1 else 0)
  else if op = 8 then (if x = v then 2 else 0) else 0

/-- Whether there are such a point and such a variable. -/
def hasPoint (p : Pr) (a v : Int) : Bool := decide (0 ≤ a) && decide (a < (ptsOf p).length) && decide (0 ≤ v) && decide (v < p.types.length)
/-- What UseOf says. -/
def useOf (p : Pr) (a v : Int) : Int := if hasPoint p a v = true then useK (p.types.getD v.toNat 0) ((ptsOf p).getD a.toNat ⟨0, 0, 0, 0, []⟩).op ((ptsOf p).getD a.toNat ⟨0, 0, 0, 0, []⟩).x ((ptsOf p).getD a.toNat ⟨0, 0, 0, 0, []⟩).y v else 0
theorem useOf_in {p : Pr} {k j : Nat} {L : List Pt} (hL : L = ptsOf p) (hk : k < L.length) (hj : j < p.types.length) {q : Pt} (hq : L[k] = q) : useOf p k j = useK p.types[j] q.op q.x q.y j := by
  subst hL hq
  unfold useOf
  rw [if_pos (by unfold hasPoint; simp; omega)]
  simp [List.getD, hk, hj]
theorem useOf_out {p : Pr} {a v : Int} (h : hasPoint p a v = false) : useOf p a v = 0 := by
  unfold useOf; rw [h]; rfl
end Go.Proofs.Ytadidppbhpdnkaa

namespace Go.Proofs.Ytadidppbhpdnkaa

open Go.RowKit

end Go.Proofs.Ytadidppbhpdnkaa

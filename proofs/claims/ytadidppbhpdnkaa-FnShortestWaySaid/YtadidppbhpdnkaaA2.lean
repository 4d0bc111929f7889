/- What the arguments read as: a whole program out of the form's own reading. -/
import Derived.Test.YtadidppbhpdnkaaA

import Derived.Lib.SmallJoins

import Derived.ProofKit

import Derived.OpenShut

import Derived.ShutString

import Derived.ChangeOld

import Derived.Below

namespace Go.Proofs.Ytadidppbhpdnkaa

open Go.RowKit Go.ChangeShapes Go.WideShapes Go.Deep Go.ChangeAt Go.Joins

theorem own : ownKnob Try.prog.godebug = none := by kernel_rfl
theorem laidOut : laidOutB Try.prog = true := by kernel_rfl

section

variable {H : Type} {enc : TypeId × Value → H} {w : World} {spare : Nat → Bool} {held : Bool}

end

end Go.Proofs.Ytadidppbhpdnkaa

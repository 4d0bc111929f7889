/- The bounds of a program, in the program. -/
import Derived.Test.YtadlnjglpigjmaaN7

import Derived.Deep.RegionHeld3

namespace Go.Proofs.Ytadlnjglpigjmaa

open Go.RowKit

theorem graphOk_none (p : Pr) : graphOk p [] = validP p := by unfold graphOk; cases validP p <;> rfl
end Go.Proofs.Ytadlnjglpigjmaa

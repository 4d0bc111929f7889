/- To which points one leads in one step or more: walks of l2From and of from. -/
import Derived.Test.YtadidppbhpdnkaaR6

import Derived.Test.YtadidppbhpdnkaaN2

import Derived.Deep.DeepCutAuto

namespace Go.Proofs.Ytadidppbhpdnkaa

open Go.RowKit

end Go.Proofs.Ytadidppbhpdnkaa

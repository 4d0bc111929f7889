/- To which points one leads in one step or more: walks of l2From and of from. -/
import Derived.Test.YtadlnjglpigjmaaR6

import Derived.Test.YtadlnjglpigjmaaN2

import Derived.Deep.DeepCutAuto

namespace Go.Proofs.Ytadlnjglpigjmaa

open Go.RowKit

end Go.Proofs.Ytadlnjglpigjmaa

/- To which points one leads in one step or more: walks of l2From and of from. -/
import Derived.Test.YtlcnngmhkdhjjaaR6

import Derived.Test.YtlcnngmhkdhjjaaN2

import Derived.Deep.DeepCutAuto

namespace Go.Proofs.Ytlcnngmhkdhjjaa

open Go.RowKit

end Go.Proofs.Ytlcnngmhkdhjjaa

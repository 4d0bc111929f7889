/- To which points one leads in one step or more: walks of l2From and of from. -/
import Derived.Test.YtnfdegphmffjdaaR4

import Derived.Test.YtnfdegphmffjdaaN2

import Derived.Deep.DeepCutAuto

namespace Go.Proofs.Ytnfdegphmffjdaa

open Go.RowKit

end Go.Proofs.Ytnfdegphmffjdaa

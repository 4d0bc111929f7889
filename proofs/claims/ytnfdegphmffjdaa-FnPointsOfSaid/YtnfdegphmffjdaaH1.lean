/- Walks of the laws' own helpers: size, equality. -/
import Derived.Test.YtnfdegphmffjdaaV5

import Derived.Deep.RegionWith

namespace Go.Proofs.Ytnfdegphmffjdaa

open Go.RowKit

/-! ### Equal lists are found equal -/

end Go.Proofs.Ytnfdegphmffjdaa

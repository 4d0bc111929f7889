/- Walks of the laws' own helpers: size, equality. -/
import Derived.Test.YtadidppbhpdnkaaV5

import Derived.Deep.RegionWith

namespace Go.Proofs.Ytadidppbhpdnkaa

open Go.RowKit

/-! ### Equal lists are found equal -/

end Go.Proofs.Ytadidppbhpdnkaa

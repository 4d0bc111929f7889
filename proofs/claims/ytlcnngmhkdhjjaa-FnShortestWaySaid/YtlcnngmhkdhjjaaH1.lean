/- Walks of the laws' own helpers: size, equality. -/
import Derived.Test.YtlcnngmhkdhjjaaV5

import Derived.Deep.RegionWith

namespace Go.Proofs.Ytlcnngmhkdhjjaa

open Go.RowKit

/-! ### Equal lists are found equal -/

end Go.Proofs.Ytlcnngmhkdhjjaa

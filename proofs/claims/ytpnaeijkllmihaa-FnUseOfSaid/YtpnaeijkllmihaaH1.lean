/- Walks of the laws' own helpers: size, equality. -/
import Derived.Test.YtpnaeijkllmihaaV5

import Derived.Deep.RegionWith

namespace Go.Proofs.Ytpnaeijkllmihaa

open Go.RowKit

/-! ### Equal lists are found equal -/

end Go.Proofs.Ytpnaeijkllmihaa

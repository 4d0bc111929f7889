/- To which points one leads in one step or more: walks of l2From and of from. -/
import Derived.Test.YtdnhinkjmjpnnaaR6

import Derived.Test.YtdnhinkjmjpnnaaN2

import Derived.Deep.DeepCutAuto

namespace Go.Proofs.Ytdnhinkjmjpnnaa

open Go.RowKit

end Go.Proofs.Ytdnhinkjmjpnnaa

/- Walk of the laws' comparison of lists of points: equal lists are found equal. -/
import Derived.Test.YtlcnngmhkdhjjaaG1

namespace Go.Proofs.Ytlcnngmhkdhjjaa

open Go.RowKit

end Go.Proofs.Ytlcnngmhkdhjjaa

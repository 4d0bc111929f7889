/- Walks of drawn arguments, weakly: a program that often has choices. -/
import Derived.Test.YtdnhinkjmjpnnaaB16

namespace Go.Proofs.Ytdnhinkjmjpnnaa

open Go.RowKit

end Go.Proofs.Ytdnhinkjmjpnnaa

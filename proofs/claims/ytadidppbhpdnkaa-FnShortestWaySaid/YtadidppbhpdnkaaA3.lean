/- Bounds out of a program's size, for the walks of the laws. -/
import Derived.Test.YtadidppbhpdnkaaA

import Derived.Test.YtadidppbhpdnkaaH1

import Derived.Test.YtadidppbhpdnkaaP3

import Derived.Deep.RegionWith

import Derived.Deep.DeepCutAuto

namespace Go.Proofs.Ytadidppbhpdnkaa

open Go.RowKit

theorem Pr.size_le {p : Pr} (h : p.size ≤ 1048576) : p.types.length ≤ 1048576 ∧ St.count p.body ≤ 1048576 ∧ p.body.length ≤ 1048576 := by
  have := count_length p.body
  unfold Pr.size at h
  omega
end Go.Proofs.Ytadidppbhpdnkaa

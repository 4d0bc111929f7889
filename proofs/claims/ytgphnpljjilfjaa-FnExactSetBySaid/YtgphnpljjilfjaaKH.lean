/- Facts of the seat's head words, each asked once, so that a frame's closed facts want little memory. No condition. -/
import Derived.Test.YtgphnpljjilfjaaRows

import Derived.JoinedOf

namespace Go.Proofs.Ytgphnpljjilfjaa
set_option maxRecDepth 100000
def headPair : { l : List Char // Try.progTables.initOrder = String.ofList l } := ⟨_, rfl⟩
theorem head_signs : Try.checked.prog.initOrder.toList = headPair.1 :=
  (congrArg String.toList ((by kernel_rfl : Try.checked.prog.initOrder = Try.progTables.initOrder).trans headPair.2)).trans String.toList_ofList
theorem make_of {P : Program} (h : P.initOrder.toList = headPair.1) : P.make = some .cut := by
  unfold Program.make Program.headLifts
  rw [h]
  kernel_rfl
theorem lifts_of {P : Program} (h : P.initOrder.toList = headPair.1) : P.liftsFinal = false := by
  unfold Program.liftsFinal Program.headLifts
  rw [h]
  kernel_rfl
theorem enter_of {P : Program} (h : P.initOrder.toList = headPair.1) (h1 : P.laysLater = false) (h2 : P.bearsReflect = false) (h3 : P.doorFits [] = true) : P.mayEnter = true := by
  unfold Program.mayEnter
  rw [h, h1, h2]
  refine Eq.trans (b := P.doorFits []) ?_ h3
  kernel_rfl
theorem k_make : Try.checked.prog.make = some .cut := make_of head_signs
theorem k_lifts : Try.checked.prog.liftsFinal = false := lifts_of head_signs
theorem k_enter : Try.checked.prog.mayEnter = true := enter_of head_signs (by kernel_rfl) (by kernel_rfl) (by kernel_rfl)
end Go.Proofs.Ytgphnpljjilfjaa

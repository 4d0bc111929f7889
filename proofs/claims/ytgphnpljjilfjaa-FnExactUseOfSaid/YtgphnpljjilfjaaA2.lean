/- What the arguments read as: a whole program out of the form's own reading. -/
import Derived.Test.YtgphnpljjilfjaaA

import Derived.Lib.SmallJoins

import Derived.ProofKit

import Derived.OpenShut

import Derived.ShutString

import Derived.ChangeOld

import Derived.Below

namespace Go.Proofs.Ytgphnpljjilfjaa

open Go.RowKit Go.ChangeShapes Go.WideShapes Go.Deep Go.ChangeAt Go.Joins

theorem own : ownKnob Try.prog.godebug = none := by kernel_rfl
theorem laidOut : laidOutB Try.prog = true := by kernel_rfl

section

variable {H : Type} {enc : TypeId × Value → H} {w : World} {spare : Nat → Bool} {held : Bool}

set_option maxRecDepth 100000 in
theorem open_program {base b0 : Nat} {r : Reach} {v : Value} {d : DataW H} {ps : List MemPlace} (hv : Value.okWide Try.prog w r b0 25 v) (h : DataW.Trod enc Try.prog w base spare held 25 v d ps) :
    ∃ (p : Pr) (at' ab : Option Addr) (ct cb : Nat), v = .agg #[.slice at' p.types.length ct, .slice ab p.body.length cb] ∧ InAt w Any p.types at' ∧ SlAt w Any p.body ab ∧ p.types.length ≤ maxLen ∧ p.body.length ≤ maxLen := by
  obtain ⟨v0, v1, y0, y1, n, rfl, rfl, rfl, h0, h1⟩ := open_agg2 Try.underlying25 (by kernel_rfl) (by kernel_rfl) hv h
  obtain ⟨l, a, c, rfl, hl, hr⟩ := open_intS h0
  obtain ⟨m, a', c', rfl, hm, hr'⟩ := open_stmtS _ _ _ _ h1
  exact ⟨⟨l, m⟩, a, a', c, c', rfl, hr, hr', hl, hm⟩
end

end Go.Proofs.Ytgphnpljjilfjaa

/- The statement Rows.FnExactBoundsHoldSaid: for every program and every list of lists the law returns true, and the arguments read as they did. No condition. -/
import Derived.Test.YtdnhinkjmjpnnaaLBH

import Derived.Test.YtdnhinkjmjpnnaaA2

import Derived.Test.YtdnhinkjmjpnnaaKH

import Derived.Test.YtdnhinkjmjpnnaaRows

namespace Go.Proofs.Ytdnhinkjmjpnnaa

open Go.ChangeShapes Go.WideShapes Go.ChangeAt Go.RowKit
set_option linter.unusedVariables false
set_option maxRecDepth 100000 in
set_option maxHeartbeats 1000000 in
theorem fnExactBoundsHold_lifted (os : Os) (started : os.Started) (H : Type) (enc : TypeId × Value → H) :
    ReturnsInHanded {} Try.checked os 8 .any (Rows.fnExactBoundsHoldSpec.pre6 enc Try.prog Try.f8 Rows.fnExactBoundsHoldRow.domain false) (Rows.fnExactBoundsHoldSpec.post enc Try.prog Try.f8 false true false false) := by
  refine returnsInHanded_of_change (C := Try.checked) own started (by kernel_rfl) Try.func8
    (ChangeSpec.witness6 (enc := enc) (C := Try.checked) false ⟨#[], #[.agg #[.slice none 0 0, .slice none 0 0], .slice none 0 0], []⟩ 8 (by kernel_rfl) (by kernel_rfl) (by kernel_rfl) (by kernel_rfl)) ?_
  intro W base args ds gs before hval0 hW hcnd _
  have hval : ∀ (j : Nat) t v, Try.f8.params[j]? = some t → args[j]? = some v → Value.okWide Try.prog W .any base t v := hval0
  have hW' := hW
  obtain ⟨p, q, hA0, hV, rfl, hfz, hnd⟩ := hW
  have hA : DataW.TrodAll enc Try.prog W 0 (fun _ => true) true Try.f8.params.toList args.toList ds p := hA0
  rw [Try.params8] at hA hval
  obtain ⟨v0, vs0, d0, ds0, p0, q0, hargs, rfl, rfl, h0, r0⟩ := trodAll_cons hA
  obtain ⟨v1, vs1, d1, ds1, p1, q1, rfl, rfl, rfl, h1, r1⟩ := trodAll_cons r0
  obtain ⟨rfl, rfl, rfl⟩ := trodAll_nil r1
  obtain rfl : args = #[v0, v1] := by cases args; simp_all
  obtain ⟨rfl, rfl⟩ := trodVars_none hV
  have k0 := h0
  have lt0 : ∀ x ∈ p0, x.block < W.heap.size := by obtain ⟨m, hm⟩ := k0; exact DataW.trod_lt m _ _ _ hm
  obtain ⟨pr, at', ab, ct, cb, rfl, hT, hB, hlt, hlb⟩ := open_program (hval 0 25 v0 rfl rfl) h0
  have k1 := h1
  have lt1 : ∀ x ∈ p1, x.block < W.heap.size := by obtain ⟨m, hm⟩ := k1; exact DataW.trod_lt m _ _ _ hm
  obtain ⟨xa1, xl1, xc1, rfl⟩ := okWide_slice Try.underlying51 (hval 1 51 v1 rfl rfl)
  obtain ⟨n1, h1'⟩ := h1
  obtain ⟨LL, aL, cL, e1, hln, hll, hI⟩ := open_intSS (v := .slice xa1 xl1 xc1) h1'
  cases e1
  clear hA0 hval0
  refine (fnExactBoundsHold_walk pr LL at' ab xa1 ct cb xc1 W hT hB hlt hlb hI hln hll).mono fun e W' ⟨he, hgr⟩ => ?_
  have bel := hgr.below
  subst he
  exact ⟨_, rfl, _, _, _, [], _, [], hW', trodAll_mk1 (shut_bool Try.underlying4 _), (trodAll_cons_mk (Below.trod laidOut (by kernel_rfl) (of_decide_eq_true (by kernel_rfl)) k0 bel lt0) (trodAll_cons_mk (Below.trod laidOut (by kernel_rfl) (of_decide_eq_true (by kernel_rfl)) k1 bel lt1) trodAll_mk0)), rfl, bel.frame _, fun h => by cases h⟩

theorem fnExactBoundsHold_closed : joinedFacts Try.checked.prog 8 Try.f8 Rows.fnExactBoundsHoldSpec Rows.fnExactBoundsHoldRow = true := by
  rw [joinedFacts, k_enter, k_lifts, k_make]
  kernel_rfl
/-- The statement. -/
theorem fnExactBoundsHold_proved : Rows.FnExactBoundsHoldSaid :=
  OpenClaim.holds_of_wide 8 Try.f8 rfl rfl rfl rfl rfl rfl rfl ⟨rfl, rfl, rfl, rfl, rfl⟩ rfl rfl rfl rfl rfl (by kernel_rfl) Try.func8 fnExactBoundsHold_closed
    (of_decide_eq_true (by kernel_rfl)) (by unfold Func.isWrapper; first | (rw [if_pos (by decide +kernel)]; kernel_rfl) | (rw [if_neg (by decide +kernel)]; exact ⟨rfl, rfl⟩))
    (fun os started H enc _ => fnExactBoundsHold_lifted os started H enc)
#print axioms fnExactBoundsHold_proved
end Go.Proofs.Ytdnhinkjmjpnnaa

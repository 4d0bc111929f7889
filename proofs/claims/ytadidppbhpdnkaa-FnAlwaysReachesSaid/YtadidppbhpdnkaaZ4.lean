/- Plain laws: dominators are passed by runs, points that are always reached are. -/
import Derived.Test.YtadidppbhpdnkaaZ3

import Derived.Test.YtadidppbhpdnkaaY3

namespace Go.Proofs.Ytadidppbhpdnkaa

open Go.RowKit

/-- Up to a point of a run: the run leads there from the beginning, past none that it has not met. -/
theorem run_rch {p : Pr} {cs : List Int} {most : Int} {R : List Nat} (hR : (runOf p cs most).1 = R) {a : Nat} : ∀ i (h : i < R.length), (∀ j (hj : j ≤ i), R[j]'(by omega) ≠ a) → Rch (ptsOf p) [0] a R[i]
  | 0, h, hn => by
    have h0 := hn 0 (Nat.le_refl _)
    have := runOf_first hR h
    rw [this] at h0 ⊢
    exact .start (by simp) (by omega)
  | i + 1, h, hn => by
    have ih := run_rch hR i (by omega) fun j hj => hn j (by omega)
    have hs := (runOf_at hR (i := i) (by omega)).2 h
    rw [ptAt_next] at hs
    have := hn (i + 1) (Nat.le_refl _)
    exact .step ih hs (by omega)
/-- From a point of a run on. -/
theorem run_from {p : Pr} {cs : List Int} {most : Int} {R : List Nat} (hR : (runOf p cs most).1 = R) {b i : Nat} (hi : i < R.length) : ∀ d (h : i + d < R.length), (∀ j (_ : i ≤ j) (hj : j ≤ i + d), R[j]'(by omega) ≠ b) → Rch (ptsOf p) [R[i]] b R[i + d]
  | 0, h, hn => by
    have h0 : R[i] ≠ b := hn i (Nat.le_refl _) (Nat.le_refl _)
    exact .start (by simp) (fun e => h0 (Int.ofNat.inj e))
  | d + 1, h, hn => by
    have ih := run_from hR hi d (by omega) fun j h1 hj => hn j h1 (by omega)
    have hs := (runOf_at hR (i := i + d) (by omega)).2 (by omega)
    rw [ptAt_next] at hs
    have := hn (i + (d + 1)) (by omega) (by omega)
    exact .step ih hs (by omega)
/-- A dominator is passed. -/
theorem run_dom {p : Pr} {cs : List Int} {most ta tb : Int} {R : List Nat} (hR : (runOf p cs most).1 = R) (hD : dominates p ta tb = true) {i : Nat} (h : i < R.length) (hb : (R[i] : Int) = tb) : ∃ j, ∃ hj : j ≤ i, (R[j] : Int) = ta := by
  obtain ⟨a, b, rfl, rfl, ha, hbl, hd⟩ := dom_in hD
  rcases domL_iff.1 hd with rfl | hn
  · exact ⟨i, Nat.le_refl _, hb⟩
  · refine Classical.byContradiction fun hno => hn ?_
    have hbb : R[i] = b := by omega
    have := run_rch hR (a := a) i h fun j hj e => hno ⟨j, hj, by omega⟩
    rwa [hbb] at this
/-- A point that is always reached is reached by a run that ends. -/
theorem run_alw {p : Pr} {cs : List Int} {most ta tb : Int} {R : List Nat} (hR : (runOf p cs most).1 = R) (hB : (runOf p cs most).2 = true) (hD : alwaysReaches p ta tb = true) {i : Nat} (h : i < R.length) (ha : (R[i] : Int) = ta) : ∃ j, i ≤ j ∧ ∃ hl : j < R.length, (R[j] : Int) = tb := by
  obtain ⟨a, b, rfl, rfl, hal, hbl, hd⟩ := alw_in hD
  rcases alwL_iff.1 hd with rfl | hn
  · exact ⟨i, Nat.le_refl _, h, ha⟩
  · refine Classical.byContradiction fun hno => hn ?_
    have haa : R[i] = a := by omega
    have := run_from hR (b := b) h (R.length - 1 - i) (by omega) fun j h1 hj e => hno ⟨j, h1, by omega, by omega⟩
    have hl := (runOf_end hR hB (by omega)).1.2 rfl
    have e : R[i + (R.length - 1 - i)]'(by omega) = (ptsOf p).length - 1 := by
      have : i + (R.length - 1 - i) = R.length - 1 := by omega
      simp only [this]; omega
    rw [haa, e] at this
    exact this
/-- Whether b must still come, behind k points. -/
def OpenAt (R : List Nat) (ta tb : Int) (k : Nat) (o : Bool) : Prop := o = true → ∃ i, ∃ hi : i < R.length, i < k ∧ (R[i] : Int) = ta ∧ ∀ j (hj : j < R.length), i ≤ j → j < k → (R[j] : Int) ≠ tb
theorem OpenAt.step {R : List Nat} {ta tb : Int} {k : Nat} {o : Bool} (hk : k < R.length) (h : OpenAt R ta tb k o) : OpenAt R ta tb (k + 1) (((R[k] : Int) == ta || o) && !((R[k] : Int) == tb)) := by
  intro ho
  simp only [Bool.and_eq_true, Bool.or_eq_true, Bool.not_eq_true', beq_iff_eq, beq_eq_false_iff_ne] at ho
  obtain ⟨h1, h2⟩ := ho
  rcases h1 with h1 | h1
  · refine ⟨k, hk, by omega, h1, fun j hj h3 h4 => ?_⟩
    obtain rfl : j = k := by omega
    exact h2
  · obtain ⟨i, hi, hik, ha, hn⟩ := h h1
    refine ⟨i, hi, by omega, ha, fun j hj h3 h4 => ?_⟩
    by_cases e : j = k
    · subst e; exact h2
    · exact hn j hj h3 (by omega)
theorem OpenAt.done {p : Pr} {cs : List Int} {most ta tb : Int} {R : List Nat} {o : Bool} (hR : (runOf p cs most).1 = R) (hB : (runOf p cs most).2 = true) (hD : alwaysReaches p ta tb = true) (h : OpenAt R ta tb R.length o) : o = false := by
  cases o with
  | false => rfl
  | true =>
    obtain ⟨i, hi, _, ha, hn⟩ := h rfl
    obtain ⟨j, h1, h2, h3⟩ := run_alw hR hB hD hi ha
    exact absurd h3 (hn j h2 h1 h2)
/-- Whether a was met, among k points. -/
def SeenAt (R : List Nat) (ta : Int) (k : Nat) (o : Bool) : Prop := ∀ j (hj : j < R.length), j < k → (R[j] : Int) = ta → o = true
theorem SeenAt.step {R : List Nat} {ta : Int} {k : Nat} {o : Bool} (hk : k < R.length) (h : SeenAt R ta k o) : SeenAt R ta (k + 1) (o || ((R[k] : Int) == ta)) := by
  intro j hj h1 h2
  by_cases e : j = k
  · subst e; simp [h2]
  · rw [h j hj (by omega) h2]; rfl
end Go.Proofs.Ytadidppbhpdnkaa

/- Plain laws: paths to the end, dominators of a program's points. -/
import Derived.Test.YtlcnngmhkdhjjaaY2

namespace Go.Proofs.Ytlcnngmhkdhjjaa

open Go.RowKit

theorem ptsOf_some {p : Pr} (h : 0 < (ptsOf p).length) : ptsOf p = pts p := by
  unfold ptsOf at *
  split
  · rfl
  · rename_i hv; rw [if_neg hv] at h; simp at h
theorem pathsTo_last {p : Pr} {k : Nat} (h : k + 1 < (ptsOf p).length) : (k : Int) ∈ pathsTo p (((ptsOf p).length : Int) - 1) := by
  have hp := ptsOf_some (p := p) (by omega)
  have e : ((ptsOf p).length : Int) - 1 = (((ptsOf p).length - 1 : Nat) : Int) := by omega
  rw [e, pathsTo_in (hasTwo_pts (by omega) (by omega)), mem_coll_nat]
  refine ⟨by omega, ?_⟩
  rw [hp] at h ⊢
  exact leads_end p h
theorem pathsFrom_first {p : Pr} {k : Nat} (h : k < (ptsOf p).length) (h0 : 0 < k) : (k : Int) ∈ pathsFrom p 0 := by
  have hp := ptsOf_some (p := p) (by omega)
  have e : (0 : Int) = ((0 : Nat) : Int) := rfl
  rw [e, pathsFrom_in (hasTwo_pts (by omega) (by omega)), mem_coll_nat]
  refine ⟨h, ?_⟩
  rw [hp] at h ⊢
  exact leads_first p h h0
theorem dom_nat {p : Pr} {i j : Nat} (hi : i < (ptsOf p).length) (hj : j < (ptsOf p).length) : dominates p i j = domL (ptsOf p) i j := dominates_in (hasTwo_pts hi hj)
theorem alw_nat {p : Pr} {i j : Nat} (hi : i < (ptsOf p).length) (hj : j < (ptsOf p).length) : alwaysReaches p i j = alwL (ptsOf p) i j := alwaysReaches_in (hasTwo_pts hi hj)
theorem two_of {p : Pr} {a b : Int} (h : hasTwo p a b = true) : ∃ i j : Nat, a = i ∧ b = j ∧ i < (ptsOf p).length ∧ j < (ptsOf p).length := by
  unfold hasTwo at h
  simp at h
  exact ⟨a.toNat, b.toNat, by omega, by omega, by omega, by omega⟩
theorem dom_in {p : Pr} {a b : Int} (h : dominates p a b = true) : ∃ i j : Nat, a = i ∧ b = j ∧ i < (ptsOf p).length ∧ j < (ptsOf p).length ∧ domL (ptsOf p) i j = true := by
  unfold dominates at h
  rw [Bool.and_eq_true] at h
  obtain ⟨i, j, rfl, rfl, hi, hj⟩ := two_of h.1
  exact ⟨i, j, rfl, rfl, hi, hj, by simpa using h.2⟩
theorem alw_in {p : Pr} {a b : Int} (h : alwaysReaches p a b = true) : ∃ i j : Nat, a = i ∧ b = j ∧ i < (ptsOf p).length ∧ j < (ptsOf p).length ∧ alwL (ptsOf p) i j = true := by
  unfold alwaysReaches at h
  rw [Bool.and_eq_true] at h
  obtain ⟨i, j, rfl, rfl, hi, hj⟩ := two_of h.1
  exact ⟨i, j, rfl, rfl, hi, hj, by simpa using h.2⟩
theorem mem_doms {p : Pr} {j : Nat} (hj : j < (ptsOf p).length) {x : Int} : x ∈ domsOf p j ↔ ∃ k : Nat, k < (ptsOf p).length ∧ domL (ptsOf p) k j = true ∧ x = k := by
  rw [domsOf_in (hasTwo_pts hj hj), mem_coll]
/-- What dominates a dominates what a dominates. -/
theorem doms_trans {p : Pr} {a b x : Int} (h : dominates p a b = true) (hx : x ∈ domsOf p a) : dominates p x b = true := by
  obtain ⟨i, j, rfl, rfl, hi, hj, hd⟩ := dom_in h
  obtain ⟨k, hk, hk2, rfl⟩ := (mem_doms hi).1 hx
  rw [dom_nat hk hj]
  exact dom_trans hk2 hd
theorem doms_anti {p : Pr} {a b : Int} (h : dominates p a b = true) (hne : a ≠ b) : dominates p b a = false := by
  obtain ⟨i, j, rfl, rfl, hi, hj, hd⟩ := dom_in h
  rw [dom_nat hj hi]
  by_cases h2 : domL (ptsOf p) j i = true
  · refine absurd ?_ hne
    have hp := ptsOf_some (p := p) (by omega)
    have : i = j := dom_anti hd h2 (by rw [hp] at hi ⊢; exact all_reached p i hi)
    rw [this]
  · simpa using h2
theorem alws_trans {p : Pr} {a b c : Int} (h : alwaysReaches p a b = true) (h2 : alwaysReaches p b c = true) : alwaysReaches p a c = true := by
  obtain ⟨i, j, rfl, rfl, hi, hj, hd⟩ := alw_in h
  obtain ⟨j', k, e, rfl, hj', hk, hd2⟩ := alw_in h2
  obtain rfl : j = j' := by omega
  rw [alw_nat hi hk]
  exact alw_trans hd hd2
theorem dominates_first {p : Pr} {t : Nat} (h : t < (ptsOf p).length) : dominates p 0 t = true := by
  have e : (0 : Int) = ((0 : Nat) : Int) := rfl
  rw [e, dom_nat (by omega) h]
  exact dom_first _ _
theorem always_last {p : Pr} {t : Nat} (h : t < (ptsOf p).length) : alwaysReaches p t (((ptsOf p).length : Int) - 1) = true := by
  have e : ((ptsOf p).length : Int) - 1 = (((ptsOf p).length - 1 : Nat) : Int) := by omega
  rw [e, alw_nat h (by omega)]
  exact alw_last _ _
theorem doms_self {p : Pr} {t : Nat} (h : t < (ptsOf p).length) : (t : Int) ∈ domsOf p t := (mem_doms h).2 ⟨t, h, dom_self _ _, rfl⟩
theorem doms_zero {p : Pr} {t : Nat} (h : t < (ptsOf p).length) : (0 : Int) ∈ domsOf p t := (mem_doms h).2 ⟨0, by omega, dom_first _ _, rfl⟩
theorem ptsOf_small {p : Pr} {M : List Pt} (hM : M = ptsOf p) : ∀ q ∈ M, q.next.length ≤ 1048576 := by
  intro q hq
  subst hM
  obtain ⟨k, hk, rfl⟩ := List.getElem_of_mem hq
  have hp := ptsOf_some (p := p) (by omega)
  have h := (pts_next p k (by rw [← hp]; exact hk)).1
  rw [next_of (k := k) (q := (ptsOf p)[k]) (by rw [← hp, List.getElem?_eq_getElem hk])] at h
  omega
end Go.Proofs.Ytlcnngmhkdhjjaa

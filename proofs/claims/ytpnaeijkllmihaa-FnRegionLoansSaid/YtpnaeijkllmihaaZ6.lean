/- Plain laws: regions of a program's bounds. -/
import Derived.Test.YtpnaeijkllmihaaZ2

import Derived.Test.YtpnaeijkllmihaaY5

namespace Go.Proofs.Ytpnaeijkllmihaa

open Go.RowKit

theorem map_of {α β : Type} {P : α → Prop} {f : α → β} : ∀ {l : List β}, (∀ r ∈ l, ∃ b, P b ∧ r = f b) → ∃ B : List α, l = B.map f ∧ ∀ b ∈ B, P b
  | [], _ => ⟨[], rfl, fun b hb => by simp at hb⟩
  | r :: l, h => by
    obtain ⟨b, hb, e⟩ := h r (by simp)
    obtain ⟨B, e2, hB⟩ := map_of (l := l) fun r hr => h r (by simp [hr])
    exact ⟨b :: B, by rw [e, e2]; rfl, fun c hc => by
      rcases List.mem_cons.1 hc with rfl | hc
      · exact hb
      · exact hB c hc⟩
theorem bds_ex (p : Pr) : ∃ B : List Bd, boundsOf p = B.map Bd.row ∧ ∀ b ∈ B, b.ok p.types.length (ptsOf p).length ∧ isRef (p.types.getD b.var 0) = true := by
  refine map_of (P := fun b => b.ok p.types.length (ptsOf p).length ∧ isRef (p.types.getD b.var 0) = true) (f := Bd.row) (fun r hr => ?_)
  obtain ⟨x, hx, href, ⟨k, hk, e⟩ | ⟨y, hy, e⟩⟩ := bounds_law hr
  · exact ⟨.loan x k, ⟨⟨hx, hk⟩, by simp [Bd.var, hx, href]⟩, e⟩
  · exact ⟨.frm x y, ⟨⟨hx, hy⟩, by simp [Bd.var, hx, href]⟩, e⟩
/-- The bounds of a program. -/
noncomputable def bds (p : Pr) : List Bd := Classical.choose (bds_ex p)
theorem bds_row (p : Pr) : boundsOf p = (bds p).map Bd.row := (Classical.choose_spec (bds_ex p)).1
theorem bds_ok (p : Pr) : ∀ b ∈ bds p, b.ok p.types.length (ptsOf p).length := fun b hb => ((Classical.choose_spec (bds_ex p)).2 b hb).1
theorem bds_ref (p : Pr) : ∀ b ∈ bds p, isRef (p.types.getD b.var 0) = true := fun b hb => ((Classical.choose_spec (bds_ex p)).2 b hb).2
theorem bds_len (p : Pr) : (bds p).length = (boundsOf p).length := by rw [bds_row]; simp
theorem bds_small (p : Pr) : (bds p).length ≤ 200 := by
  rw [bds_len]
  unfold boundsOf
  split
  · rename_i h
    have := collR_len (boundRow_len p.types (pts p)) (pts p).length
    have := pts_len h
    unfold bounds
    omega
  · simp
open Classical in

/-- Is the loan k in the region of v? -/
noncomputable def regB (p : Pr) (v k : Nat) : Bool := decide (Rg (bds p) k v)
theorem regB_iff {p : Pr} {v k : Nat} : regB p v k = true ↔ Rg (bds p) k v := by unfold regB; simp
theorem regB_lt {p : Pr} {v k : Nat} (h : regB p v k = true) : k < (ptsOf p).length ∧ v < p.types.length := by
  replace h := regB_iff.1 h
  induction h with
  | loan hb => have := bds_ok p _ hb; exact ⟨this.2, this.1⟩
  | frm hb _ ih => have := bds_ok p _ hb; exact ⟨ih.1, this.1⟩
theorem regB_hi {p : Pr} {v k : Nat} (h : (ptsOf p).length ≤ k) : regB p v k = false := by
  cases hb : regB p v k with
  | false => rfl
  | true => have := (regB_lt hb).1; omega
theorem regB_iter {p : Pr} {v k : Nat} : iterS k (bds p) (fun _ => false) (p.types.length + 1) v = regB p v k := by
  have := iterS_done (k := k) (bds_ok p) v
  cases h : regB p v k with
  | true => exact this.2 (regB_iff.1 h)
  | false =>
    cases h2 : iterS k (bds p) (fun _ => false) (p.types.length + 1) v with
    | false => rfl
    | true => rw [regB_iff.2 (this.1 h2)] at h; simp at h
/-- Is v a variable of a valid program? -/
def isVar (p : Pr) (v : Int) : Bool := validP p && (decide (0 ≤ v) && decide (v < p.types.length))
theorem isVar_nat {p : Pr} {v : Int} (h : isVar p v = true) : validP p = true ∧ ∃ j : Nat, v = j ∧ j < p.types.length := by
  unfold isVar at h; simp at h; exact ⟨h.1, v.toNat, by omega, by omega⟩
theorem isVar_of {p : Pr} {j : Nat} (hv : validP p = true) (h : j < p.types.length) : isVar p j = true := by unfold isVar; simp [hv, h]
/-- What RegionOf says. -/
noncomputable def regionOf (p : Pr) (v : Int) : List Int := if isVar p v = true then coll (regB p v.toNat) (ptsOf p).length else []
theorem regionOf_in {p : Pr} {j : Nat} (hv : validP p = true) (h : j < p.types.length) : regionOf p j = coll (regB p j) (ptsOf p).length := by
  unfold regionOf; rw [if_pos (isVar_of hv h)]; rfl
theorem regionOf_out {p : Pr} {v : Int} (h : isVar p v = false) : regionOf p v = [] := by unfold regionOf; rw [h]; rfl
theorem coll_len (f : Nat → Bool) : ∀ n, (coll f n).length ≤ n
  | 0 => by simp [coll]
  | n + 1 => by
    have := coll_len f n
    unfold coll; split <;> simp <;> omega
theorem regionOf_len (p : Pr) (v : Int) : (regionOf p v).length ≤ 1048576 := by
  unfold regionOf
  split
  · have := coll_len (regB p v.toNat) (ptsOf p).length; have := ptsOf_le p; omega
  · simp
open Classical in

/-- What Outlives says. -/
noncomputable def outlives (p : Pr) (v w : Int) : Bool := isVar p v && (isVar p w && decide (∀ k, regB p w.toNat k = true → regB p v.toNat k = true))
theorem outlives_in {p : Pr} {i j : Nat} (hv : validP p = true) (hi : i < p.types.length) (hj : j < p.types.length) : outlives p i j = true ↔ ∀ k, regB p j k = true → regB p i k = true := by
  unfold outlives
  rw [isVar_of hv hi, isVar_of hv hj]
  simp
theorem outlives_out {p : Pr} {v w : Int} (h : isVar p v = false ∨ isVar p w = false) : outlives p v w = false := by
  unfold outlives; rcases h with h | h <;> simp [h]
theorem outlives_nat {p : Pr} {v w : Int} (h : outlives p v w = true) : validP p = true ∧ ∃ i j : Nat, v = i ∧ w = j ∧ i < p.types.length ∧ j < p.types.length ∧ ∀ k, regB p j k = true → regB p i k = true := by
  have h' := h
  unfold outlives at h
  simp only [Bool.and_eq_true] at h
  obtain ⟨h1, i, rfl, hi⟩ := isVar_nat h.1
  obtain ⟨_, j, rfl, hj⟩ := isVar_nat h.2.1
  exact ⟨h1, i, j, rfl, rfl, hi, hj, (outlives_in h1 hi hj).1 h'⟩

/-! ### What the laws ask -/

theorem outlives_bound {p : Pr} {x u : Nat} (h : Bd.frm x u ∈ bds p) : validP p = true ∧ outlives p x u = true := by
  have hv : validP p = true := by
    cases hv : validP p with
    | true => rfl
    | false =>
      have h1 := bds_len p
      unfold boundsOf at h1
      rw [hv] at h1
      have : bds p = [] := List.eq_nil_of_length_eq_zero (by simpa using h1)
      rw [this] at h; simp at h
  have hok := bds_ok p _ h
  exact ⟨hv, (outlives_in hv hok.1 hok.2).2 fun k hk => regB_iff.2 (.frm h (regB_iff.1 hk))⟩
theorem outlives_on {p : Pr} {x u : Nat} {w : Int} (h : Bd.frm x u ∈ bds p) (ho : outlives p u w = true) : outlives p x w = true := by
  obtain ⟨hv, i, j, hi, rfl, hil, hjl, hk⟩ := outlives_nat ho
  obtain rfl : i = u := by omega
  have hok := bds_ok p _ h
  exact (outlives_in hv hok.1 hjl).2 fun k hw => regB_iff.2 (.frm h (regB_iff.1 (hk k hw)))
theorem outlives_self {p : Pr} {i : Nat} (hv : validP p = true) (hi : i < p.types.length) : outlives p i i = true := (outlives_in hv hi hi).2 fun _ h => h
theorem coll_mono {f g : Nat → Bool} (h : ∀ k, f k = true → g k = true) : ∀ n, (coll f n).length ≤ (coll g n).length
  | 0 => by simp [coll]
  | n + 1 => by
    have := coll_mono h n
    cases hf : f n with
    | true => rw [coll_yes hf, coll_yes (h n hf)]; simp; omega
    | false =>
      rw [coll_no hf]
      cases hg : g n with
      | true => rw [coll_yes hg]; simp; omega
      | false => rw [coll_no hg]; exact this
theorem outlives_len {p : Pr} {v w : Int} (h : outlives p v w = true) : (regionOf p w).length ≤ (regionOf p v).length := by
  obtain ⟨hv, i, j, rfl, rfl, hi, hj, hk⟩ := outlives_nat h
  rw [regionOf_in hv hi, regionOf_in hv hj]
  exact coll_mono hk _
theorem coll_nil {f : Nat → Bool} : ∀ {n : Nat}, (coll f n).length = 0 → ∀ k, k < n → f k = false
  | 0, _, k, hk => by omega
  | n + 1, h, k, hk => by
    cases hf : f n with
    | true => rw [coll_yes hf] at h; simp at h
    | false =>
      rw [coll_no hf] at h
      by_cases e : k = n
      · subst e; exact hf
      · exact coll_nil h k (by omega)
theorem outlives_none {p : Pr} {i j : Nat} (hv : validP p = true) (hi : i < p.types.length) (hj : j < p.types.length) (h : (regionOf p j).length = 0) : outlives p i j = true := by
  refine (outlives_in hv hi hj).2 fun k hk => ?_
  rw [regionOf_in hv hj] at h
  rw [coll_nil h k (regB_lt hk).1] at hk
  simp at hk
theorem ptsOf_pts' {p : Pr} (hv : validP p = true) : ptsOf p = pts p := by unfold ptsOf; rw [if_pos hv]
theorem collR_mem2 {f : Nat → List (List Value)} {r : List Value} : ∀ {n : Nat}, r ∈ collR f n → ∃ k, k < n ∧ r ∈ f k
  | 0, h => by simp [collR] at h
  | n + 1, h => by
    rcases List.mem_append.1 h with h | h
    · obtain ⟨k, hk, hr⟩ := collR_mem2 h; exact ⟨k, by omega, hr⟩
    · exact ⟨n, by omega, h⟩
theorem collR_in {f : Nat → List (List Value)} {r : List Value} : ∀ {n k : Nat}, k < n → r ∈ f k → r ∈ collR f n
  | 0, k, h, _ => by omega
  | n + 1, k, h, hr => by
    by_cases e : k = n
    · subst e; exact List.mem_append_right _ hr
    · exact List.mem_append_left _ (collR_in (by omega) hr)
/-- A region is of loans, and of references. -/
theorem region_loan {p : Pr} {v : Int} {x : Int} (h : x ∈ regionOf p v) : (∃ k : Nat, ∃ r ∈ loansOf p, x = k ∧ ∃ u y, r = [.int .i64 k, .bool u, .int .i64 y]) ∧ ∃ j : Nat, v = j ∧ j < p.types.length ∧ isRef (p.types.getD j 0) = true := by
  unfold regionOf at h
  split at h
  · rename_i hv
    obtain ⟨hvv, j, rfl, hj⟩ := isVar_nat hv
    obtain ⟨k, hk, hr, rfl⟩ := mem_coll.1 h
    rw [Int.toNat_natCast] at hr
    replace hr := regB_iff.1 hr
    constructor
    · have hl : ∃ v', Bd.loan v' k ∈ bds p := by
        clear h hv hj
        induction hr with
        | loan hb => exact ⟨_, hb⟩
        | frm _ _ ih => exact ih
      obtain ⟨v', hb⟩ := hl
      have hrow : Bd.row (.loan v' k) ∈ boundsOf p := by rw [bds_row]; exact List.mem_map.2 ⟨_, hb, rfl⟩
      unfold boundsOf at hrow
      rw [if_pos hvv] at hrow
      have hp : ptsOf p = pts p := ptsOf_pts' hvv
      obtain ⟨n, hn, hrn⟩ := collR_mem2 hrow
      rcases List.mem_append.1 hrn with hrn | hrn
      · unfold bound1 at hrn
        split at hrn
        · rename_i ho
          simp [Bd.row] at hrn
          obtain ⟨_, e⟩ := hrn
          have e : k = n := by omega
          subst e
          have : [Value.int .i64 (k : Int), .bool ((ptAt (ptsOf p) k).op == 5), .int .i64 (ptAt (ptsOf p) k).y] ∈ loansOf p := by
            unfold loansOf
            refine collR_in hk ?_
            unfold loanRow
            rw [hp]
            rw [if_pos (by simpa [isLn] using ho)]
            simp
          exact ⟨k, _, this, rfl, _, _, rfl⟩
        · simp at hrn
      · unfold bound2 at hrn
        split at hrn
        · simp [Bd.row] at hrn
        · simp at hrn
    · refine ⟨j, rfl, hj, ?_⟩
      cases hr with
      | loan hb => exact bds_ref p _ hb
      | frm hb _ => exact bds_ref p _ hb
  · simp at h
end Go.Proofs.Ytpnaeijkllmihaa

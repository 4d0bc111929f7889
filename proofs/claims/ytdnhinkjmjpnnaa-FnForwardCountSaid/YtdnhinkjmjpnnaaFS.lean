/- What ForwardLoad gives: plain laws over fwdOf. -/
import Derived.Test.YtdnhinkjmjpnnaaFJ

namespace Go.Proofs.Ytdnhinkjmjpnnaa

open Go.RowKit

theorem fwdOf_small (p : Pr) (k : Int) : (fwdOf p k).1.types.length ≤ p.types.length ∧ St.count (fwdOf p k).1.body ≤ St.count p.body := by
  cases h : hasPairP p k with
  | false => rw [fwdOf_out h]; simp [St.count]
  | true =>
    obtain ⟨j, rfl, hj, hv⟩ := hasPairP_in h
    rw [fwdOf_in h hj]
    by_cases hf : fwdAt (p.body[j]'(by omega)) p.body[j + 1] = true
    · rw [if_pos hf]
      refine ⟨Nat.le_refl _, Nat.le_of_eq ?_⟩
      refine count_set' _ _ _ hj ?_
      have hvs := hv
      rw [← valid_same] at hvs
      unfold validS at hvs
      rw [bodyS_all] at hvs
      simp only [Bool.and_eq_true, decide_eq_true_eq, List.all_eq_true] at hvs
      have h2 := hvs.2.1 _ (List.getElem_mem hj)
      unfold fwdAt at hf
      simp only [Bool.and_eq_true, beq_iff_eq, bne_iff_ne, ne_eq] at hf
      obtain ⟨et, ee, -⟩ := fwd_stmt h2 hf.1.1.2
      obtain ⟨sb, hsb⟩ : ∃ s, p.body[j + 1] = s := ⟨_, rfl⟩
      rw [hsb] at et ee ⊢
      obtain ⟨op, x, y, n, t, e⟩ := sb
      simp only [St.thn, St.els] at et ee
      subst et; subst ee
      simp [St.inner, St.count]
    · rw [if_neg hf]; simp [St.count]
/-- Where a load was forwarded: the program is valid, its points and loans are as many, and nothing is forwarded again. -/
theorem fwdOf_law {p : Pr} {k : Int} (h : (fwdOf p k).2 = true) : validP (fwdOf p k).1 = true ∧ (ptsOf (fwdOf p k).1).length = (ptsOf p).length ∧ (loansOf (fwdOf p k).1).length = (loansOf p).length ∧ fwdOf (fwdOf p k).1 k = (⟨[], []⟩, false) := by
  cases hp : hasPairP p k with
  | false => rw [fwdOf_out hp] at h; cases h
  | true =>
    obtain ⟨j, rfl, hj, hv⟩ := hasPairP_in hp
    rw [fwdOf_in hp hj] at h ⊢
    by_cases hf : fwdAt (p.body[j]'(by omega)) p.body[j + 1] = true
    · rw [if_pos hf]
      have hl := fwd_valid hv hj hf
      refine ⟨hl.1, hl.2.1, hl.2.2, ?_⟩
      cases hq : hasPairP (⟨p.types, p.body.set (j + 1) (.mk 3 p.body[j + 1].x (p.body[j]'(by omega)).y 0 [] [])⟩ : Pr) (j : Int) with
      | false => exact fwdOf_out hq
      | true =>
        rw [fwdOf_in hq (by simpa using hj)]
        rw [if_neg]
        simp [fwd_no]
    · rw [if_neg hf] at h; cases h
end Go.Proofs.Ytdnhinkjmjpnnaa

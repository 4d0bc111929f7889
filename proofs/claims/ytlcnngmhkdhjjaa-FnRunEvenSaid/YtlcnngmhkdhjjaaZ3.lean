/- Plain laws: what the laws say of runs. -/
import Derived.Test.YtlcnngmhkdhjjaaZ1

namespace Go.Proofs.Ytlcnngmhkdhjjaa

open Go.RowKit

theorem runOf_some {p : Pr} {cs : List Int} {most : Int} (h : 0 < (runOf p cs most).1.length) : validP p = true ∧ ∃ m : Nat, most = m ∧ m ≤ 1000 ∧ runOf p cs most = runF (ptsOf p) m 0 cs := by
  unfold runOf at h ⊢
  split at h
  · rename_i hc
    refine ⟨hc.1, most.toNat, by omega, by omega, ?_⟩
    rw [if_pos hc]
  · simp at h
/-- The points of a run. -/
theorem runOf_at {p : Pr} {cs : List Int} {most : Int} {R : List Nat} (hR : (runOf p cs most).1 = R) {i : Nat} (h : i < R.length) : R[i] < (ptsOf p).length ∧ ∀ (h' : i + 1 < R.length), R[i + 1] ∈ (ptAt (ptsOf p) R[i]).next := by
  subst hR
  obtain ⟨hv, m, rfl, _, e⟩ := runOf_some (p := p) (cs := cs) (most := most) (by omega)
  have hp := pts_pos hv
  have := runF_at hv m 0 cs hp i (by rw [← e]; exact h)
  simp only [← e] at this
  exact this
theorem runOf_first {p : Pr} {cs : List Int} {most : Int} {R : List Nat} (hR : (runOf p cs most).1 = R) (h : 0 < R.length) : R[0] = 0 := by
  subst hR
  obtain ⟨hv, m, rfl, _, e⟩ := runOf_some (p := p) (cs := cs) (most := most) h
  have := runF_head (L := ptsOf p) m 0 cs (by rw [← e]; exact h)
  simp only [← e] at this
  exact this
theorem runOf_end {p : Pr} {cs : List Int} {most : Int} {R : List Nat} {B : Bool} (hR : (runOf p cs most).1 = R) (hB : (runOf p cs most).2 = B) (h : 0 < R.length) : (R[R.length - 1]'(by omega) + 1 = (ptsOf p).length ↔ B = true) ∧ (B = false → (R.length : Int) = most) := by
  subst hR hB
  obtain ⟨hv, m, rfl, _, e⟩ := runOf_some (p := p) (cs := cs) (most := most) h
  have hp := pts_pos hv
  obtain ⟨h1, h2⟩ := runF_last hv m 0 cs hp
  rw [← e] at h1 h2
  generalize runOf p cs m = T at *
  obtain ⟨R, B⟩ := T
  simp only at *
  refine ⟨⟨fun hl => ?_, fun hB => ?_⟩, fun hB => ?_⟩
  · cases B with
    | true => rfl
    | false =>
      change 0 < R.length at h
      have := (h2 rfl).2 _ (List.getElem_mem (show R.length - 1 < R.length by omega))
      omega
  · obtain ⟨r, rfl⟩ := h1 hB
    simp only [List.length_append, List.length_cons, List.length_nil]
    rw [List.getElem_append_right (by omega)]
    simp
    omega
  · have := (h2 hB).1; omega
/-- A run of a hundred points more. -/
theorem runOf_longer {p : Pr} {cs : List Int} {m : Nat} (hm : m ≤ 900) : (runOf p cs ((m + 100 : Nat) : Int)).1.take (runOf p cs m).1.length = (runOf p cs m).1 ∧ ((runOf p cs m).2 = true → runOf p cs ((m + 100 : Nat) : Int) = runOf p cs m) := by
  cases hv : validP p with
  | false => rw [runOf_out (.inl hv), runOf_out (.inl hv)]; simp
  | true =>
    rw [runOf_in hv (by omega), runOf_in hv (by omega)]
    exact runF_more (ptsOf p) 100 m 0 cs

/-! ### Without choices -/

theorem chs_zero {q : Pt} {r : List Pt} (h : chs (q :: r) = 0) : q.next.length ≠ 2 ∧ chs r = 0 := by
  have h1 := chs_app [q] r
  rw [List.singleton_append, h] at h1
  refine ⟨fun h2 => ?_, by omega⟩
  have : chs [q] = 1 := by simp [chs, h2]
  omega
theorem ptsS_straight : ∀ (s : St) (a : Nat), chs (ptsS s a) = 0 → ∀ k q, (ptsS s a)[k]? = some q → q.next = [a + k + 1]
  | .mk op x y n t e, a, h => by
    simp only [ptsS] at h ⊢
    split at h
    · rw [chs_app, chs_app, chs_app] at h
      have : chs [(⟨9, 0, 0, 0, [a + 1, a + 1 + (ptsL t (a + 1)).length + 1]⟩ : Pt)] = 1 := rfl
      omega
    · split at h
      · rw [chs_app, chs_app] at h
        have : chs [(⟨10, 0, 0, 0, [a + 1, a + 1 + (ptsL t (a + 1)).length + 1]⟩ : Pt)] = 1 := rfl
        omega
      · rename_i h9 h10
        rw [if_neg h9, if_neg h10]
        intro k q hk
        cases k with
        | zero => simp at hk; subst hk; rfl
        | succ k => simp at hk
theorem ptsL_straight : ∀ (l : List St) (a : Nat), chs (ptsL l a) = 0 → ∀ k q, (ptsL l a)[k]? = some q → q.next = [a + k + 1]
  | [], a, _ => by intro k q hk; simp [ptsL] at hk
  | s :: r, a, h => by
    simp only [ptsL, chs_app] at h ⊢
    intro k q hk
    by_cases hlt : k < (ptsS s a).length
    · rw [List.getElem?_append_left hlt] at hk
      exact ptsS_straight s a (by omega) k q hk
    · rw [List.getElem?_append_right (by omega)] at hk
      have := ptsL_straight r _ (by omega) _ q hk
      rw [this]
      congr 1
      omega
theorem straight {p : Pr} (hv : validP p = true) (h : chs (ptsOf p) = 0) : ∀ m k cs, k < (ptsOf p).length → (ptsOf p).length ≤ k + 1 + m → (runF (ptsOf p) m k cs).2 = true ∧ (runF (ptsOf p) m k cs).1.length = (ptsOf p).length - k := by
  have hp := ptsOf_pts hv
  have hlen := pts_length p
  have hz : chs (ptsL p.body 0) = 0 := by rw [hp] at h; unfold pts at h; rw [chs_app] at h; omega
  intro m
  induction m with
  | zero =>
    intro k cs hk hm
    rcases ptAt_form hv hk with ⟨h1, _⟩ | ⟨_, h1, _⟩
    · rw [runF_end h1]; simp; omega
    · omega
  | succ m ih =>
    intro k cs hk hm
    rcases ptAt_form hv hk with ⟨h1, h2⟩ | ⟨h1, h2, _⟩
    · rw [runF_end h1]; simp; omega
    · have hnx : (ptAt (ptsOf p) k).next = [k + 1] := by
        have hkl : k < (ptsL p.body 0).length := by rw [hp] at h2; omega
        have e : (ptsL p.body 0)[k]? = some (ptAt (ptsOf p) k) := by
          rw [ptAt_get hk]
          have : (pts p)[k]? = some (ptsOf p)[k] := by rw [← hp, List.getElem?_eq_getElem hk]
          have h3 : (ptsL p.body 0 ++ [⟨11, 0, 0, 0, []⟩])[k]? = some (ptsOf p)[k] := this
          rw [List.getElem?_append_left hkl] at h3
          exact h3
        have := ptsL_straight p.body 0 hz k _ e
        simpa using this
      have hgo : goOn (ptAt (ptsOf p) k) cs = (k + 1, cs) := by unfold goOn; rw [hnx]; rfl
      rw [runF_on h1, hgo]
      obtain ⟨h5, h6⟩ := ih (k + 1) cs h2 (by omega)
      exact ⟨h5, by simp [h6]; omega⟩
theorem runOf_straight {p : Pr} (hv : validP p = true) (h : chs (ptsOf p) = 0) : (runOf p [] 100).2 = true ∧ (runOf p [] 100).1.length = (ptsOf p).length := by
  have := straight hv h 100 0 [] (pts_pos hv) (by have := ptsOf_le p; omega)
  have e : runOf p [] (100 : Int) = runF (ptsOf p) 100 0 [] := runOf_in (m := 100) hv (by omega)
  rw [e]
  exact ⟨this.1, by omega⟩
end Go.Proofs.Ytlcnngmhkdhjjaa

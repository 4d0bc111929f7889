/- Plain laws: uses that take, loops, counts of points, loans, bounds. -/
import Derived.Test.YtadidppbhpdnkaaY3

import Derived.Test.YtadidppbhpdnkaaU2

import Derived.Test.YtadidppbhpdnkaaN5

import Derived.Test.YtadidppbhpdnkaaN7

namespace Go.Proofs.Ytadidppbhpdnkaa

open Go.RowKit

theorem valid_of {p : Pr} {M : List Pt} {k : Nat} (hM : M = ptsOf p) (h : k < M.length) : validP p = true := by
  cases hv : validP p with
  | true => rfl
  | false => subst hM; unfold ptsOf at h; rw [hv] at h; simp at h
/-- A point of a valid program, by its op. -/
theorem pt_simple {p : Pr} {M : List Pt} {k : Nat} {q : Pt} (hM : M = ptsOf p) (h : k < M.length) (hq : M[k] = q) : q.op = 9 ∨ q.op = 10 ∨ q.op = 11 ∨ simpleS p.types q.op q.x q.y q.n = true := by
  have hv := valid_of hM h
  subst hM hq
  have e : ptsOf p = pts p := by unfold ptsOf; rw [if_pos hv]
  exact pts_simple hv _ (e ▸ List.getElem_mem h)

/-! ### Uses -/

theorem has_of {p : Pr} {a v : Int} (h : useOf p a v ≠ 0) : ∃ t j : Nat, a = t ∧ v = j ∧ t < (ptsOf p).length ∧ j < p.types.length := by
  by_cases hv : hasPoint p a v = true
  · unfold hasPoint at hv
    simp at hv
    exact ⟨a.toNat, v.toNat, by omega, by omega, by omega, by omega⟩
  · exact absurd (useOf_out (by simpa using hv)) h
/-- The variable that a point takes is one. -/
theorem takes_one {p : Pr} {a i j : Int} (h : useOf p a i = 2) (h' : useOf p a j = 2) : i = j := by
  obtain ⟨t, m, rfl, rfl, ht, hm⟩ := has_of (p := p) (a := a) (v := i) (by omega)
  obtain ⟨t', n, e, rfl, _, hn⟩ := has_of (p := p) (a := t) (v := j) (by omega)
  rw [useOf_in rfl ht hm rfl] at h
  rw [useOf_in rfl ht hn rfl] at h'
  unfold useK at h h'
  repeat' split at h
  all_goals (repeat' split at h')
  all_goals omega
/-- What is taken is of a type that is taken. -/
theorem takes_type {p : Pr} {a : Int} {j : Nat} (hj : j < p.types.length) (h : useOf p a j = 2) : p.types[j] = 2 ∨ p.types[j] = 4 := by
  obtain ⟨t, m, rfl, e, ht, hm⟩ := has_of (p := p) (a := a) (v := j) (by omega)
  obtain rfl : j = m := by omega
  have hs := pt_simple (p := p) rfl ht rfl
  rw [useOf_in rfl ht hj rfl] at h
  generalize (ptsOf p)[t] = q at *
  unfold useK at h
  by_cases h3 : q.op = 3
  · rw [if_pos h3] at h
    repeat' split at h
    all_goals omega
  · rw [if_neg h3] at h
    split at h
    · split at h <;> omega
    · split at h
      · split at h
        · omega
        · split at h <;> omega
      · split at h
        · rename_i h8
          split at h
          · rename_i hx
            rcases hs with hs | hs | hs | hs
            · omega
            · omega
            · omega
            · rw [h8, hx] at hs
              unfold simpleS at hs
              rw [tyOf_get hj] at hs
              simp at hs
              exact .inl hs.2.1
          · omega
        · omega

/-! ### Loops -/

/-- Each loop has its way back. -/
def Back (l : List Pt) (a : Nat) : Prop := ∀ k q, l[k]? = some q → q.op = 10 → q.n = 0 → ∃ e, q.next = [a + k + 1, a + e + 1] ∧ k < e ∧ e < l.length ∧ l[e]? = some ⟨10, 0, 0, 1, [a + k]⟩
theorem Back.app {l m : List Pt} {a : Nat} (h : Back l a) (h' : Back m (a + l.length)) : Back (l ++ m) a := by
  intro k q hk ho hn
  by_cases hlt : k < l.length
  · rw [List.getElem?_append_left hlt] at hk
    obtain ⟨e, h1, h2, h3, h4⟩ := h k q hk ho hn
    exact ⟨e, h1, h2, by simp; omega, by rw [List.getElem?_append_left h3]; exact h4⟩
  · rw [List.getElem?_append_right (by omega)] at hk
    obtain ⟨e, h1, h2, h3, h4⟩ := h' (k - l.length) q hk ho hn
    refine ⟨l.length + e, ?_, by omega, by simp; omega, ?_⟩
    · rw [h1, show a + l.length + (k - l.length) + 1 = a + k + 1 from by omega, show a + l.length + e + 1 = a + (l.length + e) + 1 from by omega]
    · rw [List.getElem?_append_right (by omega), Nat.add_sub_cancel_left, h4, show a + l.length + (k - l.length) = a + k from by omega]
theorem Back.one {q : Pt} {a : Nat} (h : q.op = 10 → q.n = 0 → False) : Back [q] a := by
  intro k r hk ho hn
  cases k with
  | zero => simp at hk; subst hk; exact (h ho hn).elim
  | succ k => simp at hk
mutual
theorem ptsS_back : ∀ (s : St) (a : Nat), Back (ptsS s a) a
  | .mk op x y n t e, a => by
    have h1 := ptsL_back t (a + 1)
    have h2 := ptsL_back e (a + 1 + (ptsL t (a + 1)).length + 1)
    simp only [ptsS]
    split
    · generalize ptsL t (a + 1) = T at *
      generalize ptsL e (a + 1 + T.length + 1) = E at *
      have hlen : ([(⟨9, 0, 0, 0, [a + 1, a + 1 + T.length + 1]⟩ : Pt)] ++ T ++ [(⟨10, 0, 0, 1, [a + 1 + T.length + 1 + E.length]⟩ : Pt)]).length = T.length + 2 := by first | (simp; done) | (simp; omega)
      refine ((((Back.one (by simp)).app (by simpa using h1)).app (Back.one (by simp)))).app ?_
      rw [hlen, show a + (T.length + 2) = a + 1 + T.length + 1 from by omega]
      exact h2
    · split
      · generalize ptsL t (a + 1) = T at *
        intro k q hk ho hn
        have hlen : ([(⟨10, 0, 0, 0, [a + 1, a + 1 + T.length + 1]⟩ : Pt)] ++ T ++ [(⟨10, 0, 0, 1, [a]⟩ : Pt)]).length = T.length + 2 := by first | (simp; done) | (simp; omega)
        have hend : ([(⟨10, 0, 0, 0, [a + 1, a + 1 + T.length + 1]⟩ : Pt)] ++ T ++ [(⟨10, 0, 0, 1, [a]⟩ : Pt)])[T.length + 1]? = some ⟨10, 0, 0, 1, [a]⟩ := by
          rw [List.getElem?_append_right (by simp)]; simp
        cases k with
        | zero =>
          simp at hk
          subst hk
          exact ⟨T.length + 1, by simp; omega, by omega, by rw [hlen]; omega, by rw [hend]; rfl⟩
        | succ k =>
          rw [List.append_assoc, List.getElem?_append_right (by simp)] at hk
          simp only [List.length_cons, List.length_nil, Nat.zero_add, Nat.add_sub_cancel] at hk
          by_cases hlt : k < T.length
          · rw [List.getElem?_append_left hlt] at hk
            obtain ⟨e', g1, g2, g3, g4⟩ := h1 k q hk ho hn
            refine ⟨e' + 1, ?_, by omega, by rw [hlen]; omega, ?_⟩
            · rw [g1, show a + 1 + k + 1 = a + (k + 1) + 1 from by omega, show a + 1 + e' + 1 = a + (e' + 1) + 1 from by omega]
            · rw [List.append_assoc, List.getElem?_append_right (by simp)]
              simp only [List.length_cons, List.length_nil, Nat.zero_add, Nat.add_sub_cancel]
              rw [List.getElem?_append_left g3, g4, show a + 1 + k = a + (k + 1) from by omega]
          · rw [List.getElem?_append_right (by omega)] at hk
            have hk0 : k - T.length = 0 := by
              have := (List.getElem?_eq_some_iff.1 hk).1
              simpa using this
            rw [hk0] at hk
            simp at hk
            subst hk
            simp at hn
      · rename_i h9 h10
        exact Back.one (fun h _ => h10 (by simpa using h))
theorem ptsL_back : ∀ (l : List St) (a : Nat), Back (ptsL l a) a
  | [], a => by intro k q h; simp [ptsL] at h
  | s :: r, a => by
    simp only [ptsL]
    exact (ptsS_back s a).app (ptsL_back r _)
end
theorem pts_back (p : Pr) : Back (pts p) 0 := (ptsL_back p.body 0).app (Back.one (by simp))
/-- What LoopOf hands back is a loop, from its head to its way back. -/
theorem loop_law {p : Pr} {a : Int} {M : List Pt} (hM : M = ptsOf p) (h : 0 < (loopOf p a).length) : ∃ (k e : Nat) (q r : Pt) (hk : k < M.length) (he : e < M.length), k ≤ e ∧ loopOf p a = upFrom k (e + 1 - k) ∧ M[k] = q ∧ M[e] = r ∧ q.op = 10 ∧ q.next = [k + 1, e + 1] ∧ r.next = [k] := by
  subst hM
  cases ht : hasTwo p a a with
  | false => rw [loopOf_out ht] at h; simp at h
  | true =>
    obtain ⟨j, j', rfl, _, hj, _, _, hpp⟩ := hasTwo_in ht
    rw [loopOf_in ht] at h ⊢
    cases hg : lastG (inLoop (ptsOf p) j) (j + 1) with
    | none => rw [hg] at h; simp [loopSeg] at h
    | some k =>
      have hl := (lastG_le hg).2
      unfold inLoop at hl
      simp only [Bool.and_eq_true, decide_eq_true_eq, beq_iff_eq] at hl
      obtain ⟨ho, hn, hkj, hje⟩ := hl
      have hk : k < (ptsOf p).length := by omega
      rw [ptAt_get hk] at ho hn
      have hb := pts_back p k (ptsOf p)[k] (by rw [← hpp, List.getElem?_eq_getElem hk]) ho hn
      obtain ⟨e, h1, h2, h3, h4⟩ := hb
      rw [← hpp] at h3 h4
      simp only [Nat.zero_add] at h1 h4
      refine ⟨k, e, _, _, hk, h3, by omega, ?_, rfl, rfl, ho, h1, ?_⟩
      · simp only [loopSeg]
        unfold loopEnd
        rw [nextOf_get hk, h1]
        rfl
      · rw [List.getElem?_eq_getElem h3] at h4
        simp at h4
        rw [h4]

/-! ### Counts -/

def chs (l : List Pt) : Nat := l.countP fun q => q.next.length == 2
theorem chs_app (l m : List Pt) : chs (l ++ m) = chs l + chs m := by simp [chs]
mutual
theorem ptsS_count (types : List Int) : ∀ (s : St) (d : Int) (a : Nat), stS types s d = true → (ptsS s a).length = 1 + s.inner + chs (ptsS s a)
  | .mk op x y n t e, d, a, h => by
    simp only [stS] at h
    have h1 := ptsL_count types t (d - 1) (a + 1)
    have h2 := ptsL_count types e (d - 1) (a + 1 + (ptsL t (a + 1)).length + 1)
    split at h
    · rename_i hop
      simp only [Bool.and_eq_true] at h
      have ht : t = [] := List.eq_nil_of_length_eq_zero (by have := h.1; simp at this; simpa using this)
      have he : e = [] := List.eq_nil_of_length_eq_zero (by have := h.2.1; simp at this; simpa using this)
      subst ht he
      have h9 : ¬ (op == 9) = true := by simp at hop ⊢; exact hop.1
      have h10 : ¬ (op == 10) = true := by simp at hop ⊢; exact hop.2
      simp only [ptsS]
      rw [if_neg h9, if_neg h10]
      simp [St.inner, St.count, chs]
    · split at h
      · simp at h
      · rename_i hop hg
        simp only [Bool.and_eq_true] at h
        have h1 := h1 h.1
        have h2 := h2 h.2
        simp only [ptsS, St.inner]
        split
        · rw [chs_app, chs_app, chs_app]
          simp only [List.length_append, List.length_cons, List.length_nil]
          have c1 : chs [(⟨9, 0, 0, 0, [a + 1, a + 1 + (ptsL t (a + 1)).length + 1]⟩ : Pt)] = 1 := rfl
          have c2 : chs [(⟨10, 0, 0, 1, [a + 1 + (ptsL t (a + 1)).length + 1 + (ptsL e (a + 1 + (ptsL t (a + 1)).length + 1)).length]⟩ : Pt)] = 0 := rfl
          omega
        · rename_i h9
          have h10 : (op == 10) = true := by simp at hop h9 ⊢; exact hop h9
          rw [if_pos h10, chs_app, chs_app]
          have he : e = [] := by
            cases e with
            | nil => rfl
            | cons s r => exfalso; simp [h10] at hg
          subst he
          simp only [List.length_append, List.length_cons, List.length_nil, St.count]
          have c1 : chs [(⟨10, 0, 0, 0, [a + 1, a + 1 + (ptsL t (a + 1)).length + 1]⟩ : Pt)] = 1 := rfl
          have c2 : chs [(⟨10, 0, 0, 1, [a]⟩ : Pt)] = 0 := rfl
          omega
theorem ptsL_count (types : List Int) : ∀ (l : List St) (d : Int) (a : Nat), bodyS types l d = true → (ptsL l a).length = St.count l + chs (ptsL l a)
  | [], d, a, h => by simp [ptsL, St.count, chs]
  | s :: r, d, a, h => by
    simp only [bodyS, Bool.and_eq_true] at h
    simp only [ptsL, St.count, chs_app, List.length_append]
    have h1 := ptsS_count types s d a h.1
    have h2 := ptsL_count types r d (a + (ptsS s a).length) h.2
    omega
end
theorem pts_count {p : Pr} {M : List Pt} (hM : M = ptsOf p) (hv : validP p = true) : M.length = St.count p.body + chs M + 1 := by
  have e : ptsOf p = pts p := by unfold ptsOf; rw [if_pos hv]
  rw [hM, e]
  have hv' := hv
  rw [← valid_same] at hv'
  unfold validS at hv'
  simp only [Bool.and_eq_true] at hv'
  have := ptsL_count p.types p.body 4 0 hv'.2.1
  have c : chs [(⟨11, 0, 0, 0, []⟩ : Pt)] = 0 := rfl
  unfold pts
  rw [chs_app]
  simp only [List.length_append, List.length_cons, List.length_nil]
  omega
end Go.Proofs.Ytadidppbhpdnkaa

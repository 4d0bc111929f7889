/- Plain laws: a loop is unrolled once: how many statements and choices that makes. -/
import Derived.Test.YtdnhinkjmjpnnaaW1

namespace Go.Proofs.Ytdnhinkjmjpnnaa

open Go.RowKit

/-- A loop, perhaps executed once ahead of it. -/
def unrSt (s : St) : St := .mk 9 0 0 0 (s.thn ++ [s]) []
def unrPr (p : Pr) (k : Nat) (s : St) : Pr := ⟨p.types, p.body.set k (unrSt s)⟩
mutual
theorem chsS_eq : ∀ (s : St) (a b : Nat), chs (ptsS s a) = chs (ptsS s b)
  | .mk op x y n t e, a, b => by
    simp only [ptsS]
    split
    · simp only [chs_app]
      rw [chsL_eq t (a + 1) (b + 1), chsL_eq e (a + 1 + (ptsL t (a + 1)).length + 1) (b + 1 + (ptsL t (b + 1)).length + 1)]
      rfl
    · split
      · simp only [chs_app]
        rw [chsL_eq t (a + 1) (b + 1)]
        rfl
      · rfl
theorem chsL_eq : ∀ (l : List St) (a b : Nat), chs (ptsL l a) = chs (ptsL l b)
  | [], _, _ => rfl
  | s :: r, a, b => by
    simp only [ptsL, chs_app]
    rw [chsS_eq s a b, chsL_eq r (a + (ptsS s a).length) (b + (ptsS s b).length)]
end
theorem chsL_set (s : St) : ∀ (l : List St) (i : Nat) (hi : i < l.length) (a : Nat), chs (ptsL (l.set i s) a) + chs (ptsS l[i] 0) = chs (ptsL l a) + chs (ptsS s 0)
  | x :: r, 0, _, a => by
    simp only [List.set_cons_zero, ptsL, chs_app, List.getElem_cons_zero]
    rw [chsS_eq s a 0, chsS_eq x a 0, chsL_eq r (a + (ptsS s a).length) 0, chsL_eq r (a + (ptsS x a).length) 0]
    omega
  | x :: r, i + 1, hi, a => by
    have := chsL_set s r i (by simpa using hi) (a + (ptsS x a).length)
    simp only [List.set_cons_succ, ptsL, chs_app, List.getElem_cons_succ]
    omega
theorem countL_set (s : St) : ∀ (l : List St) (i : Nat) (hi : i < l.length), St.count (l.set i s) + l[i].inner = St.count l + s.inner
  | x :: r, 0, _ => by
    simp only [List.set_cons_zero, St.count, List.getElem_cons_zero]
    omega
  | x :: r, i + 1, hi => by
    have := countL_set s r i (by simpa using hi)
    simp only [List.set_cons_succ, St.count, List.getElem_cons_succ]
    omega
theorem count_appL (m : List St) : ∀ l : List St, St.count (l ++ m) = St.count l + St.count m
  | [] => by simp [St.count]
  | s :: r => by simp only [List.cons_append, St.count, count_appL m r]; omega
theorem loop_els {types : List Int} {s : St} {d : Int} (h : stS types s d = true) (ho : s.op = 10) : s.els = [] := by
  obtain ⟨op, x, y, n, t, e⟩ := s
  simp only [St.op] at ho
  subst ho
  simp only [stS] at h
  cases e with
  | nil => rfl
  | cons s r => simp at h
theorem unr_valid {p : Pr} {k : Nat} (hv : validP p = true) (hk : k < p.body.length) (ho : p.body[k].op = 10) (hq : validP (unrPr p k p.body[k]) = true) :
    cntOf (unrPr p k p.body[k]) = cntOf p + cntOf ⟨p.types, [p.body[k]]⟩ ∧ chs (ptsOf (unrPr p k p.body[k])) = chs (ptsOf p) + chs (ptsOf ⟨p.types, [p.body[k]]⟩) := by
  have hvs := hv
  rw [← valid_same] at hvs
  unfold validS at hvs
  rw [bodyS_all] at hvs
  simp only [Bool.and_eq_true, decide_eq_true_eq, List.all_eq_true] at hvs
  obtain ⟨ht, hb, hc⟩ := hvs
  have hst := hb _ (List.getElem_mem hk)
  have hee := loop_els hst ho
  have hcg := count_get hk
  have hv1 : validP ⟨p.types, [p.body[k]]⟩ = true := by
    rw [← valid_same]
    unfold validS
    rw [bodyS_all]
    simp only [Bool.and_eq_true, decide_eq_true_eq, List.all_eq_true]
    refine ⟨ht, fun s hs => ?_, ?_⟩
    · rw [List.mem_singleton] at hs
      rw [hs]; exact hst
    · simp only [St.count]; omega
  rw [cntOf_in hv, cntOf_in hv1, cntOf_in hq]
  have e1 : ptsOf (unrPr p k p.body[k]) = pts (unrPr p k p.body[k]) := by unfold ptsOf; rw [if_pos hq]
  have e2 : ptsOf p = pts p := by unfold ptsOf; rw [if_pos hv]
  have e3 : ptsOf ⟨p.types, [p.body[k]]⟩ = pts ⟨p.types, [p.body[k]]⟩ := by unfold ptsOf; rw [if_pos hv1]
  rw [e1, e2, e3]
  have hcs := countL_set (unrSt p.body[k]) p.body k hk
  have hps := chsL_set (unrSt p.body[k]) p.body k hk 0
  obtain ⟨s, hs⟩ : ∃ s, p.body[k] = s := ⟨_, rfl⟩
  unfold pts unrPr
  rw [hs] at hcs hps ho hee ⊢
  obtain ⟨op, x, y, n, t, e⟩ := s
  simp only [St.op] at ho
  simp only [St.els] at hee
  subst ho; subst hee
  have i1 : (unrSt (.mk 10 x y n t [])).inner = St.count t + (1 + St.count t) := by
    simp only [unrSt, St.thn, St.inner, count_appL, St.count]; omega
  have i2 : (St.mk 10 x y n t []).inner = St.count t := by simp only [St.inner, St.count]; omega
  have c1 : chs (ptsS (.mk 10 x y n t []) 0) = 1 + chs (ptsL t 0) := by
    rw [ptsS, if_neg (by decide), if_pos (by decide), chs_app, chs_app, chsL_eq t _ 0]
    simp [chs]
  have c2 : chs (ptsS (unrSt (.mk 10 x y n t [])) 0) = (1 + chs (ptsL t 0)) + (1 + chs (ptsL t 0)) := by
    rw [← c1]
    show chs (ptsS (.mk 9 0 0 0 (t ++ [.mk 10 x y n t []]) []) 0) = _
    rw [ptsS]
    simp only [beq_self_eq_true, if_true, chs_app, ptsL_append]
    rw [show ∀ a, ptsL [St.mk 10 x y n t []] a = ptsS (St.mk 10 x y n t []) a from fun a => by simp [ptsL]]
    rw [chsS_eq (.mk 10 x y n t []) _ 0, chsL_eq t _ 0, c1]
    simp [chs, ptsL]
    omega
  rw [i1, i2] at hcs
  rw [c1, c2] at hps
  refine ⟨?_, ?_⟩
  · simp only [St.count, i2] at hcs ⊢
    omega
  · simp only [chs_app]
    rw [show ptsL [St.mk 10 x y n t []] 0 = ptsS (St.mk 10 x y n t []) 0 from by simp [ptsL], c1]
    have : chs [(⟨11, 0, 0, 0, []⟩ : Pt)] = 0 := rfl
    omega
end Go.Proofs.Ytdnhinkjmjpnnaa

/- Plain laws: a load behind a store is replaced by a move: points, loans, what is valid. -/
import Derived.Test.YtdnhinkjmjpnnaaN7

namespace Go.Proofs.Ytdnhinkjmjpnnaa

open Go.RowKit

/-- A store, and a load of what it stored, behind it. -/
def fwdAt (a b : St) : Bool := a.op == 7 && b.op == 6 && b.y == a.x && b.x != a.y
theorem ptsL_set (s : St) : ∀ (l : List St) (i : Nat) (hi : i < l.length), (∀ a, (ptsS s a).length = (ptsS l[i] a).length) → (∀ a, (ptsS s a).countP isLn = (ptsS l[i] a).countP isLn) → ∀ a, (ptsL (l.set i s) a).length = (ptsL l a).length ∧ (ptsL (l.set i s) a).countP isLn = (ptsL l a).countP isLn
  | x :: r, 0, _, h1, h2, a => by
    have e1 : (ptsS s a).length = (ptsS x a).length := h1 a
    have e2 : (ptsS s a).countP isLn = (ptsS x a).countP isLn := h2 a
    simp only [List.set_cons_zero, ptsL, List.length_append, List.countP_append, e1, e2, and_self]
  | x :: r, i + 1, hi, h1, h2, a => by
    have := ptsL_set s r i (by simpa using hi) (by simpa using h1) (by simpa using h2) (a + (ptsS x a).length)
    simp only [List.set_cons_succ, ptsL, List.length_append, List.countP_append, this.1, this.2, and_self]
theorem count_set' : ∀ (l : List St) (i : Nat) (s : St) (hi : i < l.length), s.inner = l[i].inner → St.count (l.set i s) = St.count l
  | x :: r, 0, s, _, h => by simp at h; simp [St.count, h]
  | x :: r, i + 1, s, hi, h => by
    simp only [List.set_cons_succ, St.count]
    rw [count_set' r i s (by simpa using hi) (by simpa using h)]
theorem collR_loans (L : List Pt) : ∀ k, k ≤ L.length → (collR (loanRow L) k).length = (L.take k).countP isLn
  | 0, _ => by simp [collR]
  | k + 1, hk => by
    have hk' : k < L.length := by omega
    rw [List.take_succ_eq_append_getElem hk', List.countP_append, ← collR_loans L k (by omega)]
    simp only [collR, List.length_append]
    congr 1
    unfold loanRow
    rw [ptAt_get hk']
    by_cases h : (L[k].op == 4 || L[k].op == 5) = true
    · rw [if_pos h]; simp [isLn, h]
    · rw [if_neg h]; simp only [Bool.not_eq_true] at h; simp [isLn, h]
theorem loansOf_cnt (p : Pr) : (loansOf p).length = (ptsOf p).countP isLn := by
  unfold loansOf
  rw [collR_loans _ _ (Nat.le_refl _), List.take_of_length_le (Nat.le_refl _)]
/-- The program with the load replaced. -/
def fwdPr (p : Pr) (k : Nat) (x y : Int) : Pr := ⟨p.types, p.body.set (k + 1) (.mk 3 x y 0 [] [])⟩
theorem fwd_stmt {types : List Int} {b : St} {d : Int} (h : stS types b d = true) (ho : b.op = 6) : b.thn = [] ∧ b.els = [] ∧ tyOf types b.x = 1 := by
  obtain ⟨op, x, y, n, t, e⟩ := b
  simp only [St.op] at ho
  subst ho
  simp only [stS, simpleS] at h
  simp at h
  exact ⟨h.1, h.2.1, h.2.2.2.1⟩
theorem store_stmt {types : List Int} {b : St} {d : Int} (h : stS types b d = true) (ho : b.op = 7) : tyOf types b.y = 1 := by
  obtain ⟨op, x, y, n, t, e⟩ := b
  simp only [St.op] at ho
  subst ho
  simp only [stS, simpleS] at h
  simp at h
  exact h.2.2.2.2
theorem fwd_valid {p : Pr} {k : Nat} (hv : validP p = true) (hk : k + 1 < p.body.length) (hf : fwdAt (p.body[k]'(by omega)) p.body[k + 1] = true) :
    validP (fwdPr p k p.body[k + 1].x (p.body[k]'(by omega)).y) = true ∧ (ptsOf (fwdPr p k p.body[k + 1].x (p.body[k]'(by omega)).y)).length = (ptsOf p).length ∧ (loansOf (fwdPr p k p.body[k + 1].x (p.body[k]'(by omega)).y)).length = (loansOf p).length := by
  have hvs := hv
  rw [← valid_same] at hvs
  unfold validS at hvs
  rw [bodyS_all] at hvs
  simp only [Bool.and_eq_true, decide_eq_true_eq, List.all_eq_true] at hvs
  obtain ⟨ht, hb, hc⟩ := hvs
  have h1 := hb _ (List.getElem_mem (show k < p.body.length by omega))
  have h2 := hb _ (List.getElem_mem hk)
  unfold fwdAt at hf
  simp only [Bool.and_eq_true, beq_iff_eq, bne_iff_ne, ne_eq] at hf
  obtain ⟨⟨⟨f1, f2⟩, f3⟩, f4⟩ := hf
  obtain ⟨et, ee, tx⟩ := fwd_stmt h2 f2
  have ty := store_stmt h1 f1
  have hin : (St.mk 3 p.body[k + 1].x (p.body[k]'(by omega)).y 0 [] []).inner = p.body[k + 1].inner := by
    obtain ⟨sb, hsb⟩ : ∃ s, p.body[k + 1] = s := ⟨_, rfl⟩
    rw [hsb] at et ee ⊢
    obtain ⟨op, x, y, n, t, e⟩ := sb
    simp only [St.thn, St.els] at et ee
    subst et; subst ee
    simp [St.inner, St.count]
  have hv2 : validP (fwdPr p k p.body[k + 1].x (p.body[k]'(by omega)).y) = true := by
    rw [← valid_same]
    unfold validS fwdPr
    rw [bodyS_all]
    simp only [Bool.and_eq_true, decide_eq_true_eq, List.all_eq_true]
    refine ⟨ht, fun s hs => ?_, by rw [count_set' _ _ _ hk hin]; exact hc⟩
    rcases List.mem_or_eq_of_mem_set hs with hs | rfl
    · exact hb s hs
    · simp [stS, simpleS, tx, ty, f4]
  have hpt := ptsL_set (.mk 3 p.body[k + 1].x (p.body[k]'(by omega)).y 0 [] []) p.body (k + 1) hk (fun a => by
      obtain ⟨sb, hsb⟩ : ∃ s, p.body[k + 1] = s := ⟨_, rfl⟩
      rw [hsb] at f2 ⊢
      obtain ⟨op, x, y, n, t, e⟩ := sb
      simp only [St.op] at f2
      subst f2
      simp [ptsS]) (fun a => by
      obtain ⟨sb, hsb⟩ : ∃ s, p.body[k + 1] = s := ⟨_, rfl⟩
      rw [hsb] at f2 ⊢
      obtain ⟨op, x, y, n, t, e⟩ := sb
      simp only [St.op] at f2
      subst f2
      simp [ptsS, isLn]) 0
  have e1 : ptsOf (fwdPr p k p.body[k + 1].x (p.body[k]'(by omega)).y) = pts (fwdPr p k p.body[k + 1].x (p.body[k]'(by omega)).y) := by unfold ptsOf; rw [if_pos hv2]
  have e2 : ptsOf p = pts p := by unfold ptsOf; rw [if_pos hv]
  refine ⟨hv2, ?_, ?_⟩
  · rw [e1, e2]
    unfold pts fwdPr
    simp only [List.length_append, hpt.1]
  · rw [loansOf_cnt, loansOf_cnt, e1, e2]
    unfold pts fwdPr
    simp only [List.countP_append, hpt.2]
/-- It is not done again. -/
theorem fwd_no (a : St) (x y : Int) : fwdAt a (.mk 3 x y 0 [] []) = false := by simp [fwdAt, St.op]
end Go.Proofs.Ytdnhinkjmjpnnaa

/- What the laws on ways and dominators say, in plain Lean. No walk stands here. -/
/- How the points of a program follow one another, in plain Lean. No walk stands here. -/
/- Plain laws: paths to the end, dominators of a program's points. -/
import Derived.Test.YtadidppbhpdnkaaN5

import Derived.Test.YtadidppbhpdnkaaU2

namespace Go.Proofs.Ytadidppbhpdnkaa

open Go.RowKit

theorem mem_coll {f : Nat → Bool} {x : Int} : ∀ {n : Nat}, x ∈ coll f n ↔ ∃ k : Nat, k < n ∧ f k = true ∧ x = k
  | 0 => by simp [coll]
  | n + 1 => by
    have ih := mem_coll (f := f) (x := x) (n := n)
    by_cases h : f n = true
    · rw [coll_yes h, List.mem_append, ih]
      constructor
      · rintro (⟨k, h1, h2, h3⟩ | h1)
        · exact ⟨k, by omega, h2, h3⟩
        · exact ⟨n, by omega, h, by simpa using h1⟩
      · rintro ⟨k, h1, h2, h3⟩
        by_cases e : k = n
        · subst e; exact .inr (by simp [h3])
        · exact .inl ⟨k, by omega, h2, h3⟩
    · rw [coll_no (by simpa using h), ih]
      constructor
      · rintro ⟨k, h1, h2, h3⟩; exact ⟨k, by omega, h2, h3⟩
      · rintro ⟨k, h1, h2, h3⟩
        by_cases e : k = n
        · subst e; exact absurd h2 h
        · exact ⟨k, by omega, h2, h3⟩
theorem mem_coll_nat {f : Nat → Bool} {n k : Nat} : (k : Int) ∈ coll f n ↔ k < n ∧ f k = true := by
  rw [mem_coll]
  constructor
  · rintro ⟨j, h1, h2, h3⟩; obtain rfl : k = j := by omega
    exact ⟨h1, h2⟩
  · rintro ⟨h1, h2⟩; exact ⟨k, h1, h2, rfl⟩
theorem hasTwo_pts {p : Pr} {i j : Nat} (hi : i < (ptsOf p).length) (hj : j < (ptsOf p).length) : hasTwo p i j = true := by
  unfold hasTwo; simp; omega
theorem reach_iff {L : List Pt} {S : List Nat} {x : Int} {k : Nat} : reach L S x k = true ↔ Rch L S x k := by
  unfold reach; exact @decide_eq_true_iff _ (Classical.propDecidable _)
theorem reach_not {L : List Pt} {S : List Nat} {x : Int} {k : Nat} : reach L S x k = false ↔ ¬ Rch L S x k := by
  rw [← reach_iff]; cases reach L S x k <;> simp
theorem Rch.ne {L : List Pt} {S : List Nat} {x : Int} {k : Nat} (h : Rch L S x k) : (k : Int) ≠ x := by cases h <;> assumption
theorem next_lt {L : List Pt} {j k : Nat} (h : k ∈ nextOf L j) : j < L.length := by
  by_cases hj : j < L.length
  · exact hj
  · unfold nextOf at h
    rw [List.getD_eq_getElem?_getD, List.getElem?_eq_none (by omega)] at h
    simp at h

/-! ### Paths -/

theorem pathsTo_law {p : Pr} {tg : Int} {i : Nat} (hi : i < (ptsOf p).length) : ((i : Int) ∈ pathsTo p tg) ↔ (tg ∈ pathsFrom p i) := by
  rcases one_cases p tg with ⟨k, rfl, hk, hpp, h1⟩ | ⟨h1, h2⟩
  · rw [pathsTo_in h1, pathsFrom_in (hasTwo_pts hi hi), mem_coll_nat, mem_coll_nat]
    simp [hi, hk]
  · rw [pathsTo_out h2, pathsFrom_in (hasTwo_pts hi hi), mem_coll]
    constructor
    · intro h; simp at h
    · rintro ⟨k, h3, _, rfl⟩; omega
theorem rch_first {L : List Pt} {S : List Nat} {i : Nat} : Rch L S (-1) i ↔ ∃ k ∈ S, k = i ∨ Rch L (nextOf L k) (-1) i := by
  constructor
  · intro h
    induction h with
    | start h1 h2 => exact ⟨_, h1, .inl rfl⟩
    | @step j k h1 h2 h3 ih =>
      obtain ⟨q, hq, rfl | hr⟩ := ih
      · exact ⟨_, hq, .inr (.start h2 h3)⟩
      · exact ⟨q, hq, .inr (.step hr h2 h3)⟩
  · rintro ⟨k, hk, rfl | hr⟩
    · exact .start hk (by omega)
    · induction hr with
      | start h1 h2 => exact .step (.start hk (by omega)) h1 h2
      | step h1 h2 h3 ih => exact .step ih h2 h3
theorem leads_law (L : List Pt) (j i : Nat) : leads L j i = (nextOf L j).any fun k => k == i || leads L k i := by
  rw [Bool.eq_iff_iff, List.any_eq_true]
  unfold leads
  rw [reach_iff, rch_first]
  constructor
  · rintro ⟨k, hk, h⟩
    refine ⟨k, hk, ?_⟩
    rcases h with rfl | h
    · simp
    · simp [reach_iff.2 h]
  · rintro ⟨k, hk, h⟩
    refine ⟨k, hk, ?_⟩
    rcases Bool.or_eq_true _ _ ▸ h with h | h
    · exact .inl (by simpa using h)
    · exact .inr (reach_iff.1 h)
theorem pathsFrom_law {p : Pr} {j i : Nat} (hj : j < (ptsOf p).length) (hi : i < (ptsOf p).length) (hL : NextOk (ptsOf p)) :
    ((nextOf (ptsOf p) j).any fun k => decide (k = i) || decide ((i : Int) ∈ pathsFrom p k)) = decide ((i : Int) ∈ pathsFrom p j) := by
  rw [pathsFrom_in (hasTwo_pts hj hj)]
  rw [show decide ((i : Int) ∈ coll (fun k => leads (ptsOf p) j k) (ptsOf p).length) = leads (ptsOf p) j i from by
    rw [Bool.eq_iff_iff, decide_eq_true_iff, mem_coll_nat]; simp [hi]]
  rw [leads_law, Bool.eq_iff_iff, List.any_eq_true, List.any_eq_true]
  have hk : ∀ k ∈ nextOf (ptsOf p) j, ((decide (k = i) || decide ((i : Int) ∈ pathsFrom p k)) = true ↔ (k == i || leads (ptsOf p) k i) = true) := by
    intro k hk
    have hkl := (hL j hj).2 k hk
    rw [pathsFrom_in (hasTwo_pts hkl hkl), Bool.or_eq_true, Bool.or_eq_true, decide_eq_true_iff, decide_eq_true_iff, mem_coll_nat]
    simp [hi]
  constructor
  · rintro ⟨k, h1, h2⟩; exact ⟨k, h1, (hk k h1).1 h2⟩
  · rintro ⟨k, h1, h2⟩; exact ⟨k, h1, (hk k h1).2 h2⟩

/-! ### Dominators -/

theorem domL_iff {L : List Pt} {a b : Nat} : domL L a b = true ↔ a = b ∨ ¬ Rch L [0] a b := by
  unfold domL
  rw [Bool.or_eq_true, decide_eq_true_iff]
  cases h : reach L [0] a b with
  | true => simp [reach_iff.1 h]
  | false => simp [reach_not.1 h]
theorem dom_self (L : List Pt) (b : Nat) : domL L b b = true := domL_iff.2 (.inl rfl)
theorem no_way {L : List Pt} {k : Nat} : ¬ Rch L [0] (0 : Nat) k := by
  intro h
  induction h with
  | start h1 h2 => simp at h1; subst h1; exact h2 rfl
  | step _ _ _ ih => exact ih
theorem dom_first (L : List Pt) (b : Nat) : domL L 0 b = true := domL_iff.2 (.inr no_way)
theorem alw_last (L : List Pt) (b : Nat) : alwL L b (L.length - 1) = true := by
  unfold alwL
  rw [Bool.or_eq_true]
  refine .inr ?_
  rw [reach_not.2 (fun h => h.ne rfl)]; rfl
theorem dom_law {L : List Pt} {a b : Nat} (hab : a ≠ b) : domL L a b = true ↔ 0 < b ∧ ∀ i, i < L.length → b ∈ nextOf L i → domL L a i = true := by
  rw [domL_iff]
  constructor
  · rintro (h | h)
    · exact absurd h hab
    · refine ⟨?_, fun i hi hb => ?_⟩
      · rcases Nat.eq_zero_or_pos b with rfl | hb
        · exact absurd (.start (by simp) (by omega)) h
        · exact hb
      · rw [domL_iff]
        by_cases e : a = i
        · exact .inl e
        · exact .inr fun hr => h (.step hr hb (by omega))
  · rintro ⟨h0, h⟩
    refine .inr fun hr => ?_
    cases hr with
    | start h1 h2 => simp at h1; omega
    | @step j _ h1 h2 h3 =>
      rcases domL_iff.1 (h j (next_lt h2) h2) with e | e
      · exact h1.ne (by omega)
      · exact e h1
theorem dom_split {L : List Pt} {c a k : Nat} (h : Rch L [0] c k) : Rch L [0] a k ∨ Rch L [0] c a := by
  induction h with
  | @start k h1 h2 =>
    by_cases e : k = a
    · subst e; exact .inr (.start h1 h2)
    · exact .inl (.start h1 (by omega))
  | @step j k h1 h2 h3 ih =>
    rcases ih with ih | ih
    · by_cases e : k = a
      · subst e; exact .inr (.step h1 h2 h3)
      · exact .inl (.step ih h2 (by omega))
    · exact .inr ih
theorem dom_trans {L : List Pt} {c a b : Nat} (h1 : domL L c a = true) (h2 : domL L a b = true) : domL L c b = true := by
  rw [domL_iff] at *
  rcases h1 with rfl | h1
  · exact h2
  · rcases h2 with rfl | h2
    · exact .inr h1
    · exact .inr fun h => (dom_split h).elim h2 h1
theorem dom_anti {L : List Pt} {a b : Nat} (h1 : domL L a b = true) (h2 : domL L b a = true) (hr : Rch L [0] (-1) a) : a = b := by
  rw [domL_iff] at *
  by_cases e : a = b
  · exact e
  · exfalso
    have h3 : ¬ Rch L [0] a b := h1.resolve_left e
    have h4 : ¬ Rch L [0] b a := h2.resolve_left (fun h => e h.symm)
    have key : ∀ k, Rch L [0] (-1) k → Rch L [0] a k ∧ Rch L [0] b k := by
      intro k hk
      induction hk with
      | @start k q1 q2 =>
        refine ⟨.start q1 fun e1 => ?_, .start q1 fun e1 => ?_⟩
        · obtain rfl : k = a := by omega
          exact h4 (.start q1 (by omega))
        · obtain rfl : k = b := by omega
          exact h3 (.start q1 (by omega))
      | @step j k q1 q2 q3 ih =>
        refine ⟨.step ih.1 q2 fun e1 => ?_, .step ih.2 q2 fun e1 => ?_⟩
        · obtain rfl : k = a := by omega
          exact h4 (.step ih.2 q2 (by omega))
        · obtain rfl : k = b := by omega
          exact h3 (.step ih.1 q2 (by omega))
    exact (key a hr).1.ne rfl
/-! ### Always reaching -/

theorem alwL_iff {L : List Pt} {a b : Nat} : alwL L a b = true ↔ a = b ∨ ¬ Rch L [a] b (L.length - 1 : Nat) := by
  unfold alwL
  rw [Bool.or_eq_true, decide_eq_true_iff]
  cases h : reach L [a] b (L.length - 1) with
  | true => simp [reach_iff.1 h]
  | false => simp [reach_not.1 h]
theorem rch_split {L : List Pt} {a b c k : Nat} (h : Rch L [a] c k) : Rch L [a] b k ∨ Rch L [b] c k := by
  induction h with
  | @start k h1 h2 =>
    by_cases e : k = b
    · subst e; exact .inr (.start (by simp) h2)
    · exact .inl (.start h1 (by omega))
  | @step j k h1 h2 h3 ih =>
    rcases ih with ih | ih
    · by_cases e : k = b
      · subst e; exact .inr (.start (by simp) h3)
      · exact .inl (.step ih h2 (by omega))
    · exact .inr (.step ih h2 h3)
theorem alw_trans {L : List Pt} {a b c : Nat} (h1 : alwL L a b = true) (h2 : alwL L b c = true) : alwL L a c = true := by
  rw [alwL_iff] at *
  rcases h1 with rfl | h1
  · exact h2
  · rcases h2 with rfl | h2
    · exact .inr h1
    · exact .inr fun h => (rch_split h).elim h1 h2

/-! ### The points follow one another -/

/-- Each number behind the first one is the next of a point before it. -/
def Pred (l : List Pt) (a : Nat) : Prop := ∀ k, a < k → k ≤ a + l.length → ∃ j, j < l.length ∧ a + j < k ∧ ∃ q, l[j]? = some q ∧ k ∈ q.next
theorem Pred.app {l m : List Pt} {a : Nat} (h : Pred l a) (h' : Pred m (a + l.length)) : Pred (l ++ m) a := by
  intro k h1 h2
  by_cases hk : k ≤ a + l.length
  · obtain ⟨j, h3, h4, q, h5, h6⟩ := h k h1 hk
    exact ⟨j, by simp; omega, h4, q, by rw [List.getElem?_append_left h3]; exact h5, h6⟩
  · obtain ⟨j, h3, h4, q, h5, h6⟩ := h' k (by omega) (by simp at h2; omega)
    exact ⟨l.length + j, by simp; omega, by omega, q, by rw [List.getElem?_append_right (by omega), Nat.add_sub_cancel_left]; exact h5, h6⟩
mutual
theorem ptsS_pred : ∀ (s : St) (a : Nat), Pred (ptsS s a) a
  | .mk op x y n t e, a => by
    have h1 := ptsL_pred t (a + 1)
    have h2 := ptsL_pred e (a + 1 + (ptsL t (a + 1)).length + 1)
    simp only [ptsS]
    split
    · generalize ptsL t (a + 1) = T at *
      generalize ptsL e (a + 1 + T.length + 1) = E at *
      intro k h3 h4
      simp only [List.length_append, List.length_cons, List.length_nil] at h4
      by_cases c1 : k = a + 1
      · exact ⟨0, by simp, by omega, _, rfl, by simp [c1]⟩
      · by_cases c2 : k ≤ a + 1 + T.length
        · obtain ⟨j, h5, h6, q, h7, h8⟩ := h1 k (by omega) c2
          refine ⟨1 + j, by simp; omega, by omega, q, ?_, h8⟩
          rw [List.append_assoc, List.append_assoc, List.getElem?_append_right (by simp), show 1 + j - [(⟨9, 0, 0, 0, [a + 1, a + 1 + T.length + 1]⟩ : Pt)].length = j from by simp, List.getElem?_append_left h5]
          exact h7
        · by_cases c3 : k = a + 1 + T.length + 1
          · exact ⟨0, by simp, by omega, _, rfl, by simp [c3]⟩
          · by_cases c4 : k = a + 1 + T.length + 1 + E.length
            · refine ⟨1 + T.length, by simp; omega, by omega, ⟨10, 0, 0, 1, [a + 1 + T.length + 1 + E.length]⟩, ?_, by simp [c4]⟩
              rw [List.getElem?_append_left (by simp; omega), List.getElem?_append_right (by simp; omega)]
              simp [Nat.add_comm]
            · obtain ⟨j, h5, h6, q, h7, h8⟩ := h2 k (by omega) (by omega)
              refine ⟨1 + T.length + 1 + j, by simp; omega, by omega, q, ?_, h8⟩
              rw [List.getElem?_append_right (by simp; omega)]
              simp only [List.length_append, List.length_cons, List.length_nil]
              rw [show 1 + T.length + 1 + j - (0 + 1 + T.length + (0 + 1)) = j from by omega]
              exact h7
    · split
      · generalize ptsL t (a + 1) = T at *
        intro k h3 h4
        simp only [List.length_append, List.length_cons, List.length_nil] at h4
        by_cases c1 : k = a + 1
        · exact ⟨0, by simp, by omega, _, rfl, by simp [c1]⟩
        · by_cases c2 : k ≤ a + 1 + T.length
          · obtain ⟨j, h5, h6, q, h7, h8⟩ := h1 k (by omega) c2
            refine ⟨1 + j, by simp; omega, by omega, q, ?_, h8⟩
            rw [List.append_assoc, List.getElem?_append_right (by simp), show 1 + j - [(⟨10, 0, 0, 0, [a + 1, a + 1 + T.length + 1]⟩ : Pt)].length = j from by simp, List.getElem?_append_left h5]
            exact h7
          · exact ⟨0, by simp, by omega, _, rfl, by simp; omega⟩
      · intro k h3 h4
        simp only [List.length_cons, List.length_nil] at h4
        exact ⟨0, by simp, by omega, _, rfl, by simp; omega⟩
theorem ptsL_pred : ∀ (l : List St) (a : Nat), Pred (ptsL l a) a
  | [], a => by intro k h1 h2; simp [ptsL] at h2; omega
  | s :: r, a => by
    simp only [ptsL]
    exact (ptsS_pred s a).app (ptsL_pred r _)
end
/-- Each point can be reached from the first one. -/
theorem all_reached (p : Pr) : ∀ k, k < (pts p).length → Rch (pts p) [0] (-1) k := by
  intro k
  induction k using Nat.strongRecOn with
  | ind k ih =>
    intro hk
    by_cases h0 : k = 0
    · subst h0; exact .start (by simp) (by omega)
    · have hl : (pts p).length = (ptsL p.body 0).length + 1 := by simp [pts]
      obtain ⟨j, h1, h2, q, h3, h4⟩ := ptsL_pred p.body 0 k (by omega) (by omega)
      refine .step (ih j (by omega) (by omega)) ?_ (by omega)
      unfold nextOf
      rw [List.getD_eq_getElem?_getD]
      rw [show (pts p)[j]? = some q from by
        show (ptsL p.body 0 ++ [⟨11, 0, 0, 0, []⟩])[j]? = some q
        rw [List.getElem?_append_left h1]; exact h3]
      exact h4
end Go.Proofs.Ytadidppbhpdnkaa

namespace Go.Proofs.Ytadidppbhpdnkaa

open Go.RowKit

/-- P holds of each point and its number. -/
def PtsI (P : Nat → Pt → Prop) (l : List Pt) (a : Nat) : Prop := ∀ k q, l[k]? = some q → P (a + k) q
theorem PtsI.nil {P : Nat → Pt → Prop} {a : Nat} : PtsI P [] a := by intro k q h; simp at h
theorem PtsI.one {P : Nat → Pt → Prop} {a : Nat} {q : Pt} (h : P a q) : PtsI P [q] a := by
  intro k r hk
  cases k with
  | zero => simp at hk; subst hk; exact h
  | succ k => simp at hk
theorem PtsI.app {P : Nat → Pt → Prop} {l m : List Pt} {a : Nat} (h : PtsI P l a) (h' : PtsI P m (a + l.length)) : PtsI P (l ++ m) a := by
  intro k q hk
  by_cases hlt : k < l.length
  · rw [List.getElem?_append_left hlt] at hk
    exact h k q hk
  · rw [List.getElem?_append_right (by omega)] at hk
    have := h' (k - l.length) q hk
    rwa [show a + l.length + (k - l.length) = a + k from by omega] at this
/-- What a point leads to, by its form. -/
def Form (k : Nat) (q : Pt) : Prop := (q.op ≠ 9 → q.op ≠ 10 → q.op ≠ 11 → q.next = [k + 1]) ∧ (q.next.length = 2 → ∃ e, q.next = [k + 1, e]) ∧ q.next ≠ [] ∧ (q.op = 9 → q.next.length = 2) ∧ (q.op = 10 → q.n = 0 → q.next.length = 2)
mutual
theorem ptsS_form : ∀ (s : St) (a : Nat), PtsI Form (ptsS s a) a
  | .mk op x y n t e, a => by
    have h1 := ptsL_form t (a + 1)
    have h2 := ptsL_form e (a + 1 + (ptsL t (a + 1)).length + 1)
    simp only [ptsS]
    split
    · refine ((((PtsI.one ?_).app ?_).app (PtsI.one ?_))).app ?_
      · exact ⟨by simp, by simp, by simp, by simp, by simp⟩
      · simpa using h1
      · exact ⟨by simp, by simp, by simp, by simp, by simp⟩
      · rw [show a + ([(⟨9, 0, 0, 0, [a + 1, a + 1 + (ptsL t (a + 1)).length + 1]⟩ : Pt)] ++ ptsL t (a + 1) ++ [(⟨10, 0, 0, 1, [a + 1 + (ptsL t (a + 1)).length + 1 + (ptsL e (a + 1 + (ptsL t (a + 1)).length + 1)).length]⟩ : Pt)]).length = a + 1 + (ptsL t (a + 1)).length + 1 from by simp only [List.length_append, List.length_cons, List.length_nil]; omega]
        exact h2
    · split
      · refine ((PtsI.one ?_).app ?_).app (PtsI.one ?_)
        · exact ⟨by simp, by simp, by simp, by simp, by simp⟩
        · simpa using h1
        · exact ⟨by simp, by simp, by simp, by simp, by simp⟩
      · rename_i h9 h10
        have h9' : op ≠ 9 := by simpa using h9
        have h10' : op ≠ 10 := by simpa using h10
        exact PtsI.one ⟨by simp, by simp, by simp, fun h => absurd h h9', fun h => absurd h h10'⟩
theorem ptsL_form : ∀ (l : List St) (a : Nat), PtsI Form (ptsL l a) a
  | [], a => by simp only [ptsL]; exact PtsI.nil
  | s :: r, a => by
    simp only [ptsL]
    exact (ptsS_form s a).app (ptsL_form r _)
end
theorem pts_split (p : Pr) {k : Nat} {q : Pt} (h : (pts p)[k]? = some q) : (k < (ptsL p.body 0).length ∧ (ptsL p.body 0)[k]? = some q) ∨ (k = (ptsL p.body 0).length ∧ q = ⟨11, 0, 0, 0, []⟩) := by
  have h' : (ptsL p.body 0 ++ [⟨11, 0, 0, 0, []⟩])[k]? = some q := h
  by_cases hk : k < (ptsL p.body 0).length
  · rw [List.getElem?_append_left hk] at h'
    exact .inl ⟨hk, h'⟩
  · rw [List.getElem?_append_right (by omega)] at h'
    refine .inr ?_
    have : k - (ptsL p.body 0).length = 0 := by
      by_cases e : k - (ptsL p.body 0).length = 0
      · exact e
      · rw [List.getElem?_eq_none (by simp; omega)] at h'; simp at h'
    rw [this] at h'
    simp at h'
    exact ⟨by omega, h'.symm⟩
theorem pts_length (p : Pr) : (pts p).length = (ptsL p.body 0).length + 1 := by simp [pts]
/-- A point that is not the last one leads on, by its form; the last one is the end. -/
theorem pts_form (p : Pr) {k : Nat} {q : Pt} (h : (pts p)[k]? = some q) : (k + 1 < (pts p).length ∧ Form k q) ∨ (k + 1 = (pts p).length ∧ q = ⟨11, 0, 0, 0, []⟩) := by
  rw [pts_length]
  rcases pts_split p h with ⟨h1, h2⟩ | ⟨h1, h2⟩
  · have := ptsL_form p.body 0 k q h2
    rw [Nat.zero_add] at this
    exact .inl ⟨by omega, this⟩
  · exact .inr ⟨by omega, h2⟩
/-- The law on next points, of one point. -/
theorem nextPoint_law (p : Pr) {k : Nat} {q : Pt} (h : (pts p)[k]? = some q) : (q.op < 9 → q.next = [k + 1]) ∧ (q.next.length = 2 → ∃ e, q.next = [k + 1, e]) := by
  rcases pts_form p h with ⟨_, h1, h2, _⟩ | ⟨_, rfl⟩
  · exact ⟨fun h => h1 (by omega) (by omega) (by omega), h2⟩
  · exact ⟨by simp, by simp⟩

/-- Each point leads on, in one step or two. -/
def Onw (l : List Pt) (a : Nat) : Prop := ∀ k q, l[k]? = some q → ∃ j, a + k < j ∧ j ≤ a + l.length ∧ (j ∈ q.next ∨ ∃ i r, i < k ∧ l[i]? = some r ∧ a + i ∈ q.next ∧ j ∈ r.next)
theorem Onw.app {l m : List Pt} {a : Nat} (h : Onw l a) (h' : Onw m (a + l.length)) : Onw (l ++ m) a := by
  intro k q hk
  by_cases hlt : k < l.length
  · rw [List.getElem?_append_left hlt] at hk
    obtain ⟨j, h1, h2, h3⟩ := h k q hk
    refine ⟨j, h1, by simp; omega, ?_⟩
    rcases h3 with h3 | ⟨i, r, hi, hr, h4, h5⟩
    · exact .inl h3
    · exact .inr ⟨i, r, hi, by rw [List.getElem?_append_left (by omega)]; exact hr, h4, h5⟩
  · rw [List.getElem?_append_right (by omega)] at hk
    obtain ⟨j, h1, h2, h3⟩ := h' (k - l.length) q hk
    refine ⟨j, by omega, by simp; omega, ?_⟩
    rcases h3 with h3 | ⟨i, r, hi, hr, h4, h5⟩
    · exact .inl h3
    · exact .inr ⟨l.length + i, r, by omega, by rw [List.getElem?_append_right (by omega), Nat.add_sub_cancel_left]; exact hr, by rw [← Nat.add_assoc]; exact h4, h5⟩
theorem Onw.one {q : Pt} {a : Nat} (h : a + 1 ∈ q.next) : Onw [q] a := by
  intro k r hk
  cases k with
  | zero => simp at hk; subst hk; exact ⟨a + 1, by omega, by simp, .inl h⟩
  | succ k => simp at hk
mutual
theorem ptsS_onw : ∀ (s : St) (a : Nat), Onw (ptsS s a) a
  | .mk op x y n t e, a => by
    have h1 := ptsL_onw t (a + 1)
    have h2 := ptsL_onw e (a + 1 + (ptsL t (a + 1)).length + 1)
    simp only [ptsS]
    split
    · generalize ptsL t (a + 1) = T at *
      generalize ptsL e (a + 1 + T.length + 1) = E at *
      have g1 : Onw ([(⟨9, 0, 0, 0, [a + 1, a + 1 + T.length + 1]⟩ : Pt)] ++ T) a := (Onw.one (by simp)).app (by simpa using h1)
      intro k q hk
      by_cases c1 : k < T.length + 1
      · rw [List.getElem?_append_left (by simp; omega), List.getElem?_append_left (by simp; omega)] at hk
        obtain ⟨j, h3, h4, h5⟩ := g1 k q hk
        refine ⟨j, h3, by simp at h4 ⊢; omega, ?_⟩
        rcases h5 with h5 | ⟨i, r, hi, hr, h6, h7⟩
        · exact .inl h5
        · exact .inr ⟨i, r, hi, by rw [List.getElem?_append_left (by simp; omega), List.getElem?_append_left (by simp; omega)]; exact hr, h6, h7⟩
      · by_cases c2 : k = T.length + 1
        · subst c2
          rw [List.getElem?_append_left (by simp), List.getElem?_append_right (by simp)] at hk
          simp at hk
          subst hk
          exact ⟨a + 1 + T.length + 1 + E.length, by omega, by simp; omega, .inl (by simp)⟩
        · have hlen : ([(⟨9, 0, 0, 0, [a + 1, a + 1 + T.length + 1]⟩ : Pt)] ++ T ++ [(⟨10, 0, 0, 1, [a + 1 + T.length + 1 + E.length]⟩ : Pt)]).length = T.length + 2 := by first | (simp; done) | (simp; omega)
          rw [List.getElem?_append_right (by rw [hlen]; omega), hlen] at hk
          obtain ⟨j, h3, h4, h5⟩ := h2 (k - (T.length + 2)) q hk
          refine ⟨j, by omega, by simp; omega, ?_⟩
          rcases h5 with h5 | ⟨i, r, hi, hr, h6, h7⟩
          · exact .inl h5
          · exact .inr ⟨T.length + 2 + i, r, by omega, by rw [List.getElem?_append_right (by rw [hlen]; omega), hlen, Nat.add_sub_cancel_left]; exact hr, by rw [show a + (T.length + 2 + i) = a + 1 + T.length + 1 + i from by omega]; exact h6, h7⟩
    · split
      · generalize ptsL t (a + 1) = T at *
        have g1 : Onw ([(⟨10, 0, 0, 0, [a + 1, a + 1 + T.length + 1]⟩ : Pt)] ++ T) a := (Onw.one (by simp)).app (by simpa using h1)
        intro k q hk
        by_cases c1 : k < T.length + 1
        · rw [List.getElem?_append_left (by simp; omega)] at hk
          obtain ⟨j, h3, h4, h5⟩ := g1 k q hk
          refine ⟨j, h3, by simp at h4 ⊢; omega, ?_⟩
          rcases h5 with h5 | ⟨i, r, hi, hr, h6, h7⟩
          · exact .inl h5
          · exact .inr ⟨i, r, hi, by rw [List.getElem?_append_left (by simp; omega)]; exact hr, h6, h7⟩
        · rw [List.getElem?_append_right (by simp; omega)] at hk
          have c2 : k = T.length + 1 := by
            by_cases e : k = T.length + 1
            · exact e
            · rw [List.getElem?_eq_none (by simp; omega)] at hk; simp at hk
          subst c2
          simp at hk
          subst hk
          exact ⟨a + 1 + T.length + 1, by omega, by simp; omega, .inr ⟨0, ⟨10, 0, 0, 0, [a + 1, a + 1 + T.length + 1]⟩, by omega, by simp, by simp, by simp⟩⟩
      · exact Onw.one (by simp)
theorem ptsL_onw : ∀ (l : List St) (a : Nat), Onw (ptsL l a) a
  | [], a => by intro k q h; simp [ptsL] at h
  | s :: r, a => by
    simp only [ptsL]
    exact (ptsS_onw s a).app (ptsL_onw r _)
end
theorem next_of {L : List Pt} {k : Nat} {q : Pt} (h : L[k]? = some q) : nextOf L k = q.next := by
  unfold nextOf; rw [List.getD_eq_getElem?_getD, h]; rfl
/-- Each point but the last one leads to one behind it. -/
theorem onward (p : Pr) {k : Nat} (h : k + 1 < (pts p).length) : ∃ j, k < j ∧ j < (pts p).length ∧ Rch (pts p) (nextOf (pts p) k) (-1) j := by
  have hl := pts_length p
  obtain ⟨q, hq⟩ : ∃ q, (ptsL p.body 0)[k]? = some q := ⟨_, List.getElem?_eq_getElem (by omega)⟩
  have up : ∀ (i : Nat) (r : Pt), (ptsL p.body 0)[i]? = some r → (pts p)[i]? = some r := by
    intro i r hr
    show (ptsL p.body 0 ++ [⟨11, 0, 0, 0, []⟩])[i]? = some r
    rw [List.getElem?_append_left (List.getElem?_eq_some_iff.1 hr).1]; exact hr
  obtain ⟨j, h1, h2, h3⟩ := ptsL_onw p.body 0 k q hq
  refine ⟨j, by omega, by omega, ?_⟩
  rw [next_of (up _ _ hq)]
  rcases h3 with h3 | ⟨i, r, hi, hr, h4, h5⟩
  · exact .start h3 (by omega)
  · exact .step (.start (k := i) (by simpa using h4) (by omega)) (by rw [next_of (up _ _ hr)]; exact h5) (by omega)
theorem rch_trans {L : List Pt} {S : List Nat} {j k : Nat} (h1 : Rch L S (-1) j) (h2 : Rch L (nextOf L j) (-1) k) : Rch L S (-1) k := by
  induction h2 with
  | start h3 h4 => exact .step h1 h3 h4
  | step _ h4 h5 ih => exact .step ih h4 h5
/-- The last point can be reached from each other one. -/
theorem end_reached (p : Pr) : ∀ m k, (pts p).length = k + 1 + m → 0 < m → Rch (pts p) (nextOf (pts p) k) (-1) ((pts p).length - 1) := by
  intro m
  induction m using Nat.strongRecOn with
  | ind m ih =>
    intro k hk hm
    obtain ⟨j, h1, h2, h3⟩ := onward p (k := k) (by omega)
    by_cases e : j = (pts p).length - 1
    · subst e; exact h3
    · exact rch_trans h3 (ih ((pts p).length - 1 - j) (by omega) j (by omega) (by omega))
theorem leads_end (p : Pr) {k : Nat} (h : k + 1 < (pts p).length) : leads (pts p) k ((pts p).length - 1) = true := by
  unfold leads
  exact reach_iff.2 (end_reached p ((pts p).length - (k + 1)) k (by omega) (by omega))
theorem leads_first (p : Pr) {k : Nat} (h : k < (pts p).length) (h0 : 0 < k) : leads (pts p) 0 k = true := by
  unfold leads
  rw [reach_iff]
  have := (rch_first.1 (all_reached p k h))
  obtain ⟨j, hj, h2⟩ := this
  simp at hj
  subst hj
  rcases h2 with rfl | h2
  · omega
  · exact h2
end Go.Proofs.Ytadidppbhpdnkaa

namespace Go.Proofs.Ytadidppbhpdnkaa

open Go.RowKit

theorem ptsOf_some {p : Pr} (h : 0 < (ptsOf p).length) : ptsOf p = pts p := by
  unfold ptsOf at *
  split
  · rfl
  · rename_i hv; rw [if_neg hv] at h; simp at h
theorem pathsTo_last {p : Pr} {k : Nat} (h : k + 1 < (ptsOf p).length) : (k : Int) ∈ pathsTo p (((ptsOf p).length : Int) - 1) := by
  have hp := ptsOf_some (p := p) (by omega)
  have e : ((ptsOf p).length : Int) - 1 = (((ptsOf p).length - 1 : Nat) : Int) := by omega
  rw [e, pathsTo_in (hasTwo_pts (by omega) (by omega)), mem_coll_nat]
  refine ⟨by omega, ?_⟩
  rw [hp] at h ⊢
  exact leads_end p h
theorem pathsFrom_first {p : Pr} {k : Nat} (h : k < (ptsOf p).length) (h0 : 0 < k) : (k : Int) ∈ pathsFrom p 0 := by
  have hp := ptsOf_some (p := p) (by omega)
  have e : (0 : Int) = ((0 : Nat) : Int) := rfl
  rw [e, pathsFrom_in (hasTwo_pts (by omega) (by omega)), mem_coll_nat]
  refine ⟨h, ?_⟩
  rw [hp] at h ⊢
  exact leads_first p h h0
theorem dom_nat {p : Pr} {i j : Nat} (hi : i < (ptsOf p).length) (hj : j < (ptsOf p).length) : dominates p i j = domL (ptsOf p) i j := dominates_in (hasTwo_pts hi hj)
theorem alw_nat {p : Pr} {i j : Nat} (hi : i < (ptsOf p).length) (hj : j < (ptsOf p).length) : alwaysReaches p i j = alwL (ptsOf p) i j := alwaysReaches_in (hasTwo_pts hi hj)
theorem two_of {p : Pr} {a b : Int} (h : hasTwo p a b = true) : ∃ i j : Nat, a = i ∧ b = j ∧ i < (ptsOf p).length ∧ j < (ptsOf p).length := by
  unfold hasTwo at h
  simp at h
  exact ⟨a.toNat, b.toNat, by omega, by omega, by omega, by omega⟩
theorem dom_in {p : Pr} {a b : Int} (h : dominates p a b = true) : ∃ i j : Nat, a = i ∧ b = j ∧ i < (ptsOf p).length ∧ j < (ptsOf p).length ∧ domL (ptsOf p) i j = true := by
  unfold dominates at h
  rw [Bool.and_eq_true] at h
  obtain ⟨i, j, rfl, rfl, hi, hj⟩ := two_of h.1
  exact ⟨i, j, rfl, rfl, hi, hj, by simpa using h.2⟩
theorem alw_in {p : Pr} {a b : Int} (h : alwaysReaches p a b = true) : ∃ i j : Nat, a = i ∧ b = j ∧ i < (ptsOf p).length ∧ j < (ptsOf p).length ∧ alwL (ptsOf p) i j = true := by
  unfold alwaysReaches at h
  rw [Bool.and_eq_true] at h
  obtain ⟨i, j, rfl, rfl, hi, hj⟩ := two_of h.1
  exact ⟨i, j, rfl, rfl, hi, hj, by simpa using h.2⟩
theorem mem_doms {p : Pr} {j : Nat} (hj : j < (ptsOf p).length) {x : Int} : x ∈ domsOf p j ↔ ∃ k : Nat, k < (ptsOf p).length ∧ domL (ptsOf p) k j = true ∧ x = k := by
  rw [domsOf_in (hasTwo_pts hj hj), mem_coll]
/-- What dominates a dominates what a dominates. -/
theorem doms_trans {p : Pr} {a b x : Int} (h : dominates p a b = true) (hx : x ∈ domsOf p a) : dominates p x b = true := by
  obtain ⟨i, j, rfl, rfl, hi, hj, hd⟩ := dom_in h
  obtain ⟨k, hk, hk2, rfl⟩ := (mem_doms hi).1 hx
  rw [dom_nat hk hj]
  exact dom_trans hk2 hd
theorem doms_anti {p : Pr} {a b : Int} (h : dominates p a b = true) (hne : a ≠ b) : dominates p b a = false := by
  obtain ⟨i, j, rfl, rfl, hi, hj, hd⟩ := dom_in h
  rw [dom_nat hj hi]
  by_cases h2 : domL (ptsOf p) j i = true
  · refine absurd ?_ hne
    have hp := ptsOf_some (p := p) (by omega)
    have : i = j := dom_anti hd h2 (by rw [hp] at hi ⊢; exact all_reached p i hi)
    rw [this]
  · simpa using h2
theorem alws_trans {p : Pr} {a b c : Int} (h : alwaysReaches p a b = true) (h2 : alwaysReaches p b c = true) : alwaysReaches p a c = true := by
  obtain ⟨i, j, rfl, rfl, hi, hj, hd⟩ := alw_in h
  obtain ⟨j', k, e, rfl, hj', hk, hd2⟩ := alw_in h2
  obtain rfl : j = j' := by omega
  rw [alw_nat hi hk]
  exact alw_trans hd hd2
theorem dominates_first {p : Pr} {t : Nat} (h : t < (ptsOf p).length) : dominates p 0 t = true := by
  have e : (0 : Int) = ((0 : Nat) : Int) := rfl
  rw [e, dom_nat (by omega) h]
  exact dom_first _ _
theorem always_last {p : Pr} {t : Nat} (h : t < (ptsOf p).length) : alwaysReaches p t (((ptsOf p).length : Int) - 1) = true := by
  have e : ((ptsOf p).length : Int) - 1 = (((ptsOf p).length - 1 : Nat) : Int) := by omega
  rw [e, alw_nat h (by omega)]
  exact alw_last _ _
theorem doms_self {p : Pr} {t : Nat} (h : t < (ptsOf p).length) : (t : Int) ∈ domsOf p t := (mem_doms h).2 ⟨t, h, dom_self _ _, rfl⟩
theorem doms_zero {p : Pr} {t : Nat} (h : t < (ptsOf p).length) : (0 : Int) ∈ domsOf p t := (mem_doms h).2 ⟨0, by omega, dom_first _ _, rfl⟩
theorem ptsOf_small {p : Pr} {M : List Pt} (hM : M = ptsOf p) : ∀ q ∈ M, q.next.length ≤ 1048576 := by
  intro q hq
  subst hM
  obtain ⟨k, hk, rfl⟩ := List.getElem_of_mem hq
  have hp := ptsOf_some (p := p) (by omega)
  have h := (pts_next p k (by rw [← hp]; exact hk)).1
  rw [next_of (k := k) (q := (ptsOf p)[k]) (by rw [← hp, List.getElem?_eq_getElem hk])] at h
  omega
end Go.Proofs.Ytadidppbhpdnkaa

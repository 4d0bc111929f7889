/- Which points can be reached: plain, with no walk: the invariant of a search that marks points, whatever the order in which it takes them. -/
import Derived.Test.YtlcnngmhkdhjjaaP3

namespace Go.Proofs.Ytlcnngmhkdhjjaa

open Go.RowKit

/-- The points that come next. -/
def nextOf (L : List Pt) (k : Nat) : List Nat := (L.getD k ⟨0, 0, 0, 0, []⟩).next
theorem nextOf_get {L : List Pt} {k : Nat} (h : k < L.length) : nextOf L k = (L[k]).next := by simp [nextOf, h]

/-- The point k can be reached from the points S, without passing the point x. -/
inductive Rch (L : List Pt) (S : List Nat) (x : Int) : Nat → Prop
  | start {k : Nat} : k ∈ S → (k : Int) ≠ x → Rch L S x k
  | step {j k : Nat} : Rch L S x j → k ∈ nextOf L j → (k : Int) ≠ x → Rch L S x k

/-- All next points are points, at most two. -/
def NextOk (L : List Pt) : Prop := ∀ k, k < L.length → (nextOf L k).length ≤ 2 ∧ ∀ j ∈ nextOf L k, j < L.length

/-- The search's invariant: f tells the marked points, W are those that are still to be taken. -/
def Srch (L : List Pt) (S : List Nat) (x : Int) (f : List Bool) (W : List Nat) : Prop :=
  f.length = L.length ∧ (∀ k ∈ W, k < L.length) ∧
  (∀ k, f[k]? = some true → Rch L S x k) ∧
  (∀ k ∈ W, (k : Int) = x ∨ Rch L S x k) ∧
  (∀ k ∈ S, (k : Int) = x ∨ f[k]? = some true ∨ k ∈ W) ∧
  (∀ j, f[j]? = some true → ∀ k ∈ nextOf L j, (k : Int) = x ∨ f[k]? = some true ∨ k ∈ W)
theorem Srch.start {L : List Pt} {S : List Nat} {x : Int} (hS : ∀ k ∈ S, k < L.length) : Srch L S x (List.replicate L.length false) S := by
  refine ⟨by simp, hS, fun k hk => ?_, fun k hk => ?_, fun k hk => .inr (.inr hk), fun j hj => ?_⟩
  · rw [List.getElem?_replicate] at hk; split at hk <;> simp at hk
  · by_cases h : (k : Int) = x
    · exact .inl h
    · exact .inr (.start hk h)
  · rw [List.getElem?_replicate] at hj; split at hj <;> simp at hj
/-- The work's order does not matter. -/
theorem Srch.perm {L : List Pt} {S : List Nat} {x : Int} {f : List Bool} {W W' : List Nat} (h : Srch L S x f W) (hp : ∀ k, k ∈ W ↔ k ∈ W') : Srch L S x f W' := by
  obtain ⟨h1, h2, h3, h4, h5, h6⟩ := h
  exact ⟨h1, fun k hk => h2 k ((hp k).2 hk), h3, fun k hk => h4 k ((hp k).2 hk), fun k hk => (h5 k hk).imp id (Or.imp id (hp k).1), fun j hj k hk => (h6 j hj k hk).imp id (Or.imp id (hp k).1)⟩
/-- A point that need not be marked is dropped. -/
theorem Srch.drop {L : List Pt} {S : List Nat} {x : Int} {f : List Bool} {W : List Nat} {a : Nat} (h : Srch L S x f (a :: W)) (ha : (a : Int) = x ∨ f[a]? = some true) : Srch L S x f W := by
  obtain ⟨h1, h2, h3, h4, h5, h6⟩ := h
  refine ⟨h1, fun k hk => h2 k (by simp [hk]), h3, fun k hk => h4 k (by simp [hk]), fun k hk => ?_, fun j hj k hk => ?_⟩
  · rcases h5 k hk with q | q | q
    · exact .inl q
    · exact .inr (.inl q)
    · rcases List.mem_cons.1 q with rfl | q
      · rcases ha with ha | ha
        · exact .inl ha
        · exact .inr (.inl ha)
      · exact .inr (.inr q)
  · rcases h6 j hj k hk with q | q | q
    · exact .inl q
    · exact .inr (.inl q)
    · rcases List.mem_cons.1 q with rfl | q
      · rcases ha with ha | ha
        · exact .inl ha
        · exact .inr (.inl ha)
      · exact .inr (.inr q)
/-- A point is marked, and what comes next is still to be taken. -/
theorem Srch.mark {L : List Pt} {S : List Nat} {x : Int} {f : List Bool} {W : List Nat} {a : Nat} (h : Srch L S x f (a :: W)) (hL : NextOk L) (ha : (a : Int) ≠ x) : Srch L S x (f.set a true) (W ++ nextOf L a) := by
  obtain ⟨h1, h2, h3, h4, h5, h6⟩ := h
  have hal : a < L.length := h2 a (by simp)
  have hra : Rch L S x a := by
    rcases h4 a (by simp) with q | q
    · exact absurd q ha
    · exact q
  have hset : ∀ k : Nat, f[k]? = some true → (f.set a true)[k]? = some true := by
    intro k hk
    rw [List.getElem?_set]
    split
    · rename_i e; subst e; simp [h1, hal]
    · exact hk
  have hsa : (f.set a true)[a]? = some true := by simp [h1, hal]
  have hget : ∀ k : Nat, (f.set a true)[k]? = some true → k = a ∨ f[k]? = some true := by
    intro k hk
    by_cases e : a = k
    · exact .inl e.symm
    · rw [List.getElem?_set_ne e] at hk; exact .inr hk
  refine ⟨by simpa using h1, fun k hk => ?_, fun k hk => ?_, fun k hk => ?_, fun k hk => ?_, fun j hj k hk => ?_⟩
  · rcases List.mem_append.1 hk with q | q
    · exact h2 k (by simp [q])
    · exact (hL a hal).2 k q
  · rcases hget k hk with rfl | q
    · exact hra
    · exact h3 k q
  · rcases List.mem_append.1 hk with q | q
    · exact h4 k (by simp [q])
    · by_cases e : (k : Int) = x
      · exact .inl e
      · exact .inr (.step hra q e)
  · rcases h5 k hk with q | q | q
    · exact .inl q
    · exact .inr (.inl (hset k q))
    · rcases List.mem_cons.1 q with rfl | q
      · exact .inr (.inl hsa)
      · exact .inr (.inr (by simp [q]))
  · rcases hget j hj with rfl | q
    · exact .inr (.inr (by simp [hk]))
    · rcases h6 j q k hk with r | r | r
      · exact .inl r
      · exact .inr (.inl (hset k r))
      · rcases List.mem_cons.1 r with rfl | r
        · exact .inr (.inl hsa)
        · exact .inr (.inr (by simp [r]))
/-- At the end the marked points are those that can be reached. -/
theorem Srch.done {L : List Pt} {S : List Nat} {x : Int} {f : List Bool} (h : Srch L S x f []) : ∀ k, f[k]? = some true ↔ Rch L S x k := by
  obtain ⟨h1, h2, h3, h4, h5, h6⟩ := h
  intro k
  refine ⟨h3 k, fun hr => ?_⟩
  induction hr with
  | start hk hne =>
    rcases h5 _ hk with q | q | q
    · exact absurd q hne
    · exact q
    · simp at q
  | step _ hk hne ih =>
    rcases h6 _ ih _ hk with q | q | q
    · exact absurd q hne
    · exact q
    · simp at q

/-- How many points are not marked. -/
def unmarked (f : List Bool) : Nat := f.countP (· == false)
theorem unmarked_set : ∀ (f : List Bool) (a : Nat), f[a]? = some false → unmarked (f.set a true) + 1 = unmarked f
  | [], _, h => by simp at h
  | b :: r, 0, h => by
    simp at h
    subst h
    simp [unmarked]
  | b :: r, a + 1, h => by
    have := unmarked_set r a (by simpa using h)
    simp only [unmarked, List.set_cons_succ, List.countP_cons] at this ⊢
    omega
theorem unmarked_le (f : List Bool) : unmarked f ≤ f.length := List.countP_le_length
end Go.Proofs.Ytlcnngmhkdhjjaa

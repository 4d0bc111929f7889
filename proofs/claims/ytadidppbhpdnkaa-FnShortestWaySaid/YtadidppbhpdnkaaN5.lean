/- PathsFrom and PathsTo, of the program and of the reference: both hand back the same lists. -/
/- LoopOf, of the program and of the reference: both hand back the same list. -/
import Derived.Test.YtadidppbhpdnkaaN3

import Derived.Test.YtadidppbhpdnkaaN1

namespace Go.Proofs.Ytadidppbhpdnkaa

open Go.RowKit

theorem one_cases (p : Pr) (a : Int) : (∃ k : Nat, a = k ∧ k < (ptsOf p).length ∧ ptsOf p = pts p ∧ hasTwo p a a = true) ∨ ((a < 0 ∨ (ptsOf p).length ≤ a) ∧ hasTwo p a a = false) := by
  cases h : hasTwo p a a with
  | true =>
    obtain ⟨j, k, e1, e2, hj, hk, hv, hpp⟩ := hasTwo_in h
    exact .inl ⟨j, e1, hj, hpp, rfl⟩
  | false =>
    refine .inr ⟨?_, rfl⟩
    unfold hasTwo at h
    by_cases h1 : a < 0
    · exact .inl h1
    · refine .inr ?_
      by_cases h2 : a < (ptsOf p).length
      · simp at h; omega
      · omega
theorem pts_ok {p : Pr} (h : ptsOf p = pts p) : NextOk (ptsOf p) := by rw [h]; exact pts_next p
/-- Does the point j lead to the point k? -/
noncomputable def leads (L : List Pt) (j k : Nat) : Bool := reach L (nextOf L j) (-1) k
theorem Marked.leads {L : List Pt} {j : Nat} {w' : World} {gf : Nat} {f : List Bool} (hF : Flags w' gf f) (hl : f.length = L.length) (h : ∀ k : Nat, f[k]? = some true ↔ Rch L (nextOf L j) (-1) k) {k : Nat} (hk : k < L.length) :
    w'.cell? ⟨gf, k, none⟩ = some (.bool (leads L j k)) := Marked.cell hF hl h hk

/-- What PathsFrom says. -/
noncomputable def pathsFrom (p : Pr) (a : Int) : List Int := if hasTwo p a a = true then coll (fun k => leads (ptsOf p) a.toNat k) (ptsOf p).length else []
theorem pathsFrom_len (p : Pr) (a : Int) : (pathsFrom p a).length ≤ 1048576 := by
  unfold pathsFrom
  split
  · have := coll_le (fun k => leads (ptsOf p) a.toNat k) (ptsOf p).length
    have := ptsOf_le p
    omega
  · simp
theorem pathsFrom_in {p : Pr} {j : Nat} (h : hasTwo p j j = true) : pathsFrom p j = coll (fun k => leads (ptsOf p) j k) (ptsOf p).length := by simp [pathsFrom, h]
theorem pathsFrom_out {p : Pr} {a : Int} (h : hasTwo p a a = false) : pathsFrom p a = [] := by simp [pathsFrom, h]
/-- What PathsTo says. -/
noncomputable def pathsTo (p : Pr) (a : Int) : List Int := if hasTwo p a a = true then coll (fun k => leads (ptsOf p) k a.toNat) (ptsOf p).length else []
theorem pathsTo_len (p : Pr) (a : Int) : (pathsTo p a).length ≤ 1048576 := by
  unfold pathsTo
  split
  · have := coll_le (fun k => leads (ptsOf p) k a.toNat) (ptsOf p).length
    have := ptsOf_le p
    omega
  · simp
theorem pathsTo_in {p : Pr} {j : Nat} (h : hasTwo p j j = true) : pathsTo p j = coll (fun k => leads (ptsOf p) k j) (ptsOf p).length := by simp [pathsTo, h]
theorem pathsTo_out {p : Pr} {a : Int} (h : hasTwo p a a = false) : pathsTo p a = [] := by simp [pathsTo, h]

theorem HandI.after {l : List Int} {w0 w w' : World} {e : Ending} (h : HandI l w e w') (hg : Gr w0 w none) : HandI l w0 e w' := by
  obtain ⟨a, c, he, h1, h2, h3, h4⟩ := h
  exact ⟨a, c, he, h1, fun g hgo => ⟨Nat.le_trans hg.size (h2 g hgo).1, (h2 g hgo).2⟩, h3, hg.trans0 h4⟩
end Go.Proofs.Ytadidppbhpdnkaa

namespace Go.Proofs.Ytadidppbhpdnkaa

open Go.RowKit

/-! ### The points of loops lead to two -/

def LoopNext (l : List Pt) : Prop := ∀ q ∈ l, q.op = 10 → q.n = 0 → q.next.length = 2
theorem LoopNext.app {l l' : List Pt} (h : LoopNext l) (h' : LoopNext l') : LoopNext (l ++ l') := by
  intro q hq
  rcases List.mem_append.1 hq with hq | hq
  · exact h q hq
  · exact h' q hq
theorem LoopNext.one {q : Pt} (h : q.op = 10 → q.n = 0 → q.next.length = 2) : LoopNext [q] := by
  intro r hr; simp at hr; subst hr; exact h
mutual
theorem ptsS_loop : ∀ (s : St) (a : Nat), LoopNext (ptsS s a)
  | .mk op x y n t e, a => by
    simp only [ptsS]
    split
    · exact (((LoopNext.one (by simp)).app (ptsL_loop t _)).app (LoopNext.one (by simp))).app (ptsL_loop e _)
    · split
      · exact ((LoopNext.one (by simp)).app (ptsL_loop t _)).app (LoopNext.one (by simp))
      · rename_i h1 h2
        exact LoopNext.one (fun h => absurd h (by simpa using h2))
theorem ptsL_loop : ∀ (l : List St) (a : Nat), LoopNext (ptsL l a)
  | [], a => by intro q hq; simp [ptsL] at hq
  | s :: r, a => by
    simp only [ptsL]
    exact (ptsS_loop s a).app (ptsL_loop r _)
end
theorem pts_loop (p : Pr) : LoopNext (pts p) := (ptsL_loop p.body 0).app (LoopNext.one (by simp))

/-! ### The last number that is picked -/

def lastG (f : Nat → Bool) : Nat → Option Nat
  | 0 => none
  | k + 1 => if f k = true then some k else lastG f k
theorem lastG_yes {f : Nat → Bool} {k : Nat} (h : f k = true) : lastG f (k + 1) = some k := by simp [lastG, h]
theorem lastG_no {f : Nat → Bool} {k : Nat} (h : f k = false) : lastG f (k + 1) = lastG f k := by simp [lastG, h]
theorem lastG_le {f : Nat → Bool} {n k : Nat} (h : lastG f n = some k) : k < n ∧ f k = true := by
  induction n with
  | zero => simp [lastG] at h
  | succ n ih =>
    by_cases hf : f n = true
    · rw [lastG_yes hf] at h
      simp at h
      subst h
      exact ⟨by omega, hf⟩
    · rw [lastG_no (by simpa using hf)] at h
      have := ih h
      exact ⟨by omega, this.2⟩
theorem lastG_above {f : Nat → Bool} {m : Nat} (h : ∀ k, m ≤ k → f k = false) : ∀ n, m ≤ n → lastG f n = lastG f m := by
  intro n hn
  induction n with
  | zero => have : m = 0 := by omega
            subst this; rfl
  | succ n ih =>
    by_cases e : m = n + 1
    · subst e; rfl
    · rw [lastG_no (h n (by omega))]; exact ih (by omega)

def ptAt (L : List Pt) (k : Nat) : Pt := L.getD k ⟨0, 0, 0, 0, []⟩
theorem ptAt_get {L : List Pt} {k : Nat} (h : k < L.length) : ptAt L k = L[k] := by simp [ptAt, h]
/-- Where a loop ends. -/
def loopEnd (L : List Pt) (k : Nat) : Nat := (nextOf L k).getD 1 0
/-- Is k the first point of a loop in which the point a is? -/
def inLoop (L : List Pt) (a k : Nat) : Bool := (ptAt L k).op == 10 && ((ptAt L k).n == 0 && (decide (k ≤ a) && decide (a < loopEnd L k)))
def loopSeg (L : List Pt) : Option Nat → List Int
  | none => []
  | some i => upFrom i (loopEnd L i - i)
/-- What LoopOf says. -/
def loopOf (p : Pr) (a : Int) : List Int := if hasTwo p a a = true then loopSeg (ptsOf p) (lastG (inLoop (ptsOf p) a.toNat) (a.toNat + 1)) else []
theorem loopEnd_le {L : List Pt} (hL : NextOk L) {k : Nat} (hk : k < L.length) : loopEnd L k ≤ L.length := by
  unfold loopEnd
  by_cases h : 1 < (nextOf L k).length
  · have := (hL k hk).2 (nextOf L k)[1] (List.getElem_mem h)
    simp [h]; omega
  · rw [List.getD_eq_getElem?_getD, List.getElem?_eq_none (by omega)]; simp
theorem loopOf_len (p : Pr) (a : Int) : (loopOf p a).length ≤ 1048576 := by
  unfold loopOf
  split
  · rename_i h
    obtain ⟨j, k, rfl, hjk, hj, hk, hv, hpp⟩ := hasTwo_in h
    have hN : NextOk (ptsOf p) := pts_ok hpp
    have hml := ptsOf_le p
    cases hg : lastG (inLoop (ptsOf p) (j : Int).toNat) ((j : Int).toNat + 1) with
    | none => simp [loopSeg]
    | some i =>
      have hi := (lastG_le hg).1
      have := loopEnd_le hN (k := i) (by simp at hi; omega)
      simp [loopSeg, upFrom_length]
      omega
  · simp
theorem loopOf_in {p : Pr} {j : Nat} (h : hasTwo p j j = true) : loopOf p j = loopSeg (ptsOf p) (lastG (inLoop (ptsOf p) j) (j + 1)) := by simp [loopOf, h]
theorem loopOf_out {p : Pr} {a : Int} (h : hasTwo p a a = false) : loopOf p a = [] := by simp [loopOf, h]
theorem inLoop_above (L : List Pt) (a k : Nat) (h : a + 1 ≤ k) : inLoop L a k = false := by
  have : decide (k ≤ a) = false := by simp; omega
  simp [inLoop, this]
theorem upFrom_snoc (k : Int) (n : Nat) : upFrom k (n + 1) = upFrom k n ++ [k + n] := by simp [upFrom, List.range_succ]

/-- A point that is the first of a loop leads to two. -/
theorem loop_two {L : List Pt} (hL : LoopNext L) {k : Nat} (hk : k < L.length) {q : Pt} (hq : L[k] = q) (h1 : q.op = 10) (h2 : q.n = 0) : ∃ x0 x1 : Nat, q.next = [x0, x1] ∧ loopEnd L k = x1 := by
  have hl := hL q (hq ▸ List.getElem_mem hk) h1 h2
  match hn : q.next, hl with
  | [x0, x1], _ =>
    refine ⟨x0, x1, rfl, ?_⟩
    unfold loopEnd
    rw [nextOf_get hk, hq, hn]
    rfl
theorem inLoop_of {L : List Pt} {k a : Nat} (hk : k < L.length) {q : Pt} (hq : L[k] = q) : inLoop L a k = (q.op == 10 && (q.n == 0 && (decide (k ≤ a) && decide (a < loopEnd L k)))) := by
  unfold inLoop; rw [ptAt_get hk, hq]

end Go.Proofs.Ytadidppbhpdnkaa

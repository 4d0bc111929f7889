/- Which points can be reached: plain, with no walk: the invariant of a search that marks points, whatever the order in which it takes them. -/
/- The points that come next are points. A list of marks in memory. No walk stands here. -/
/- Reaching in the reference: the walk of l12Reach. -/
/- Reaching in the program: the walk of around. -/
/- Dominating: walks of Dominates, in the program and in the reference. -/
/- Dominates and AlwaysReaches, of the program and of the reference: both hand back the same. -/
import Derived.Test.YtadlnjglpigjmaaP3

import Derived.Test.YtadlnjglpigjmaaQ

import Derived.Test.YtadlnjglpigjmaaH5

import Derived.Deep.LoopGhost

import Derived.Deep.DeepCutAuto

import Derived.Test.YtadlnjglpigjmaaS1

import Derived.Deep.RegionWith

namespace Go.Proofs.Ytadlnjglpigjmaa

open Go.RowKit

/-- The points that come next. -/
def nextOf (L : List Pt) (k : Nat) : List Nat := (L.getD k ⟨0, 0, 0, 0, []⟩).next
theorem nextOf_get {L : List Pt} {k : Nat} (h : k < L.length) : nextOf L k = (L[k]).next := by simp [nextOf, h]

/-- The point k can be reached from the points S, without passing the point x. -/
inductive Rch (L : List Pt) (S : List Nat) (x : Int) : Nat → Prop
  | start {k : Nat} : k ∈ S → (k : Int) ≠ x → Rch L S x k
  | step {j k : Nat} : Rch L S x j → k ∈ nextOf L j → (k : Int) ≠ x → Rch L S x k

/-- All next points are points, at most two. -/
def NextOk (L : List Pt) : Prop := ∀ k, k < L.length → (nextOf L k).length ≤ 2 ∧ ∀ j ∈ nextOf L k, j < L.length

/-- The search's invariant: f tells the marked points, W are those that are still to be taken. -/
def Srch (L : List Pt) (S : List Nat) (x : Int) (f : List Bool) (W : List Nat) : Prop :=
  f.length = L.length ∧ (∀ k ∈ W, k < L.length) ∧
  (∀ k, f[k]? = some true → Rch L S x k) ∧
  (∀ k ∈ W, (k : Int) = x ∨ Rch L S x k) ∧
  (∀ k ∈ S, (k : Int) = x ∨ f[k]? = some true ∨ k ∈ W) ∧
  (∀ j, f[j]? = some true → ∀ k ∈ nextOf L j, (k : Int) = x ∨ f[k]? = some true ∨ k ∈ W)
theorem Srch.start {L : List Pt} {S : List Nat} {x : Int} (hS : ∀ k ∈ S, k < L.length) : Srch L S x (List.replicate L.length false) S := by
  refine ⟨by simp, hS, fun k hk => ?_, fun k hk => ?_, fun k hk => .inr (.inr hk), fun j hj => ?_⟩
  · rw [List.getElem?_replicate] at hk; split at hk <;> simp at hk
  · by_cases h : (k : Int) = x
    · exact .inl h
    · exact .inr (.start hk h)
  · rw [List.getElem?_replicate] at hj; split at hj <;> simp at hj
/-- The work's order does not matter. -/
theorem Srch.perm {L : List Pt} {S : List Nat} {x : Int} {f : List Bool} {W W' : List Nat} (h : Srch L S x f W) (hp : ∀ k, k ∈ W ↔ k ∈ W') : Srch L S x f W' := by
  obtain ⟨h1, h2, h3, h4, h5, h6⟩ := h
  exact ⟨h1, fun k hk => h2 k ((hp k).2 hk), h3, fun k hk => h4 k ((hp k).2 hk), fun k hk => (h5 k hk).imp id (Or.imp id (hp k).1), fun j hj k hk => (h6 j hj k hk).imp id (Or.imp id (hp k).1)⟩
/-- A point that need not be marked is dropped. -/
theorem Srch.drop {L : List Pt} {S : List Nat} {x : Int} {f : List Bool} {W : List Nat} {a : Nat} (h : Srch L S x f (a :: W)) (ha : (a : Int) = x ∨ f[a]? = some true) : Srch L S x f W := by
  obtain ⟨h1, h2, h3, h4, h5, h6⟩ := h
  refine ⟨h1, fun k hk => h2 k (by simp [hk]), h3, fun k hk => h4 k (by simp [hk]), fun k hk => ?_, fun j hj k hk => ?_⟩
  · rcases h5 k hk with q | q | q
    · exact .inl q
    · exact .inr (.inl q)
    · rcases List.mem_cons.1 q with rfl | q
      · rcases ha with ha | ha
        · exact .inl ha
        · exact .inr (.inl ha)
      · exact .inr (.inr q)
  · rcases h6 j hj k hk with q | q | q
    · exact .inl q
    · exact .inr (.inl q)
    · rcases List.mem_cons.1 q with rfl | q
      · rcases ha with ha | ha
        · exact .inl ha
        · exact .inr (.inl ha)
      · exact .inr (.inr q)
/-- A point is marked, and what comes next is still to be taken. -/
theorem Srch.mark {L : List Pt} {S : List Nat} {x : Int} {f : List Bool} {W : List Nat} {a : Nat} (h : Srch L S x f (a :: W)) (hL : NextOk L) (ha : (a : Int) ≠ x) : Srch L S x (f.set a true) (W ++ nextOf L a) := by
  obtain ⟨h1, h2, h3, h4, h5, h6⟩ := h
  have hal : a < L.length := h2 a (by simp)
  have hra : Rch L S x a := by
    rcases h4 a (by simp) with q | q
    · exact absurd q ha
    · exact q
  have hset : ∀ k : Nat, f[k]? = some true → (f.set a true)[k]? = some true := by
    intro k hk
    rw [List.getElem?_set]
    split
    · rename_i e; subst e; simp [h1, hal]
    · exact hk
  have hsa : (f.set a true)[a]? = some true := by simp [h1, hal]
  have hget : ∀ k : Nat, (f.set a true)[k]? = some true → k = a ∨ f[k]? = some true := by
    intro k hk
    by_cases e : a = k
    · exact .inl e.symm
    · rw [List.getElem?_set_ne e] at hk; exact .inr hk
  refine ⟨by simpa using h1, fun k hk => ?_, fun k hk => ?_, fun k hk => ?_, fun k hk => ?_, fun j hj k hk => ?_⟩
  · rcases List.mem_append.1 hk with q | q
    · exact h2 k (by simp [q])
    · exact (hL a hal).2 k q
  · rcases hget k hk with rfl | q
    · exact hra
    · exact h3 k q
  · rcases List.mem_append.1 hk with q | q
    · exact h4 k (by simp [q])
    · by_cases e : (k : Int) = x
      · exact .inl e
      · exact .inr (.step hra q e)
  · rcases h5 k hk with q | q | q
    · exact .inl q
    · exact .inr (.inl (hset k q))
    · rcases List.mem_cons.1 q with rfl | q
      · exact .inr (.inl hsa)
      · exact .inr (.inr (by simp [q]))
  · rcases hget j hj with rfl | q
    · exact .inr (.inr (by simp [hk]))
    · rcases h6 j q k hk with r | r | r
      · exact .inl r
      · exact .inr (.inl (hset k r))
      · rcases List.mem_cons.1 r with rfl | r
        · exact .inr (.inl hsa)
        · exact .inr (.inr (by simp [r]))
/-- At the end the marked points are those that can be reached. -/
theorem Srch.done {L : List Pt} {S : List Nat} {x : Int} {f : List Bool} (h : Srch L S x f []) : ∀ k, f[k]? = some true ↔ Rch L S x k := by
  obtain ⟨h1, h2, h3, h4, h5, h6⟩ := h
  intro k
  refine ⟨h3 k, fun hr => ?_⟩
  induction hr with
  | start hk hne =>
    rcases h5 _ hk with q | q | q
    · exact absurd q hne
    · exact q
    · simp at q
  | step _ hk hne ih =>
    rcases h6 _ ih _ hk with q | q | q
    · exact absurd q hne
    · exact q
    · simp at q

/-- How many points are not marked. -/
def unmarked (f : List Bool) : Nat := f.countP (· == false)
theorem unmarked_set : ∀ (f : List Bool) (a : Nat), f[a]? = some false → unmarked (f.set a true) + 1 = unmarked f
  | [], _, h => by simp at h
  | b :: r, 0, h => by
    simp at h
    subst h
    simp [unmarked]
  | b :: r, a + 1, h => by
    have := unmarked_set r a (by simpa using h)
    simp only [unmarked, List.set_cons_succ, List.countP_cons] at this ⊢
    omega
theorem unmarked_le (f : List Bool) : unmarked f ≤ f.length := List.countP_le_length
end Go.Proofs.Ytadlnjglpigjmaa

namespace Go.Proofs.Ytadlnjglpigjmaa

open Go.RowKit

def NextIn (l : List Pt) (m : Nat) : Prop := ∀ q ∈ l, q.next.length ≤ 2 ∧ ∀ j ∈ q.next, j ≤ m
theorem NextIn.mono {l : List Pt} {m m' : Nat} (h : NextIn l m) (hm : m ≤ m') : NextIn l m' := fun q hq => ⟨(h q hq).1, fun j hj => by have := (h q hq).2 j hj; omega⟩
theorem NextIn.app {l l' : List Pt} {m : Nat} (h : NextIn l m) (h' : NextIn l' m) : NextIn (l ++ l') m := fun q hq => by
  rcases List.mem_append.1 hq with r | r
  · exact h q r
  · exact h' q r
theorem NextIn.one {q : Pt} {m : Nat} (h : q.next.length ≤ 2) (h' : ∀ j ∈ q.next, j ≤ m) : NextIn [q] m := fun r hr => by
  simp at hr
  subst hr
  exact ⟨h, h'⟩
mutual
theorem ptsS_next : ∀ (s : St) (a : Nat), NextIn (ptsS s a) (a + (ptsS s a).length)
  | .mk op x y n t e, a => by
    have h1 := ptsL_next t (a + 1)
    have h2 := ptsL_next e (a + 1 + (ptsL t (a + 1)).length + 1)
    simp only [ptsS]
    split
    · simp only [List.length_append, List.length_cons, List.length_nil]
      refine (((NextIn.one (by simp) (by simp; omega)).app (h1.mono (by omega))).app (NextIn.one (by simp) (by simp; omega))).app (h2.mono (by omega))
    · split
      · simp only [List.length_append, List.length_cons, List.length_nil]
        exact ((NextIn.one (by simp) (by simp; omega)).app (h1.mono (by omega))).app (NextIn.one (by simp) (by simp))
      · exact NextIn.one (by simp) (by simp)
theorem ptsL_next : ∀ (l : List St) (a : Nat), NextIn (ptsL l a) (a + (ptsL l a).length)
  | [], a => by intro q hq; simp [ptsL] at hq
  | s :: r, a => by
    have h1 := ptsS_next s a
    have h2 := ptsL_next r (a + (ptsS s a).length)
    simp only [ptsL, List.length_append]
    exact (h1.mono (by omega)).app (h2.mono (by omega))
end
theorem pts_next (p : Pr) : NextOk (pts p) := by
  intro k hk
  have h := ptsL_next p.body 0
  rw [nextOf_get hk]
  have hm := List.getElem_mem hk
  have hl : (pts p).length = (ptsL p.body 0).length + 1 := by simp [pts]
  rcases List.mem_append.1 (show (pts p)[k] ∈ ptsL p.body 0 ++ [⟨11, 0, 0, 0, []⟩] from hm) with q | q
  · have := h _ q
    exact ⟨this.1, fun j hj => by have := this.2 j hj; omega⟩
  · simp at q
    rw [q]
    simp

/-! ### Marks -/

/-- The marks f lie in the block g. -/
def Flags (w : World) (g : Nat) (f : List Bool) : Prop := ∃ arr : Array Value, w.heap[g]? = some (.cells arr 4 (0, 0)) ∧ arr.size = f.length ∧ ∀ j (h : j < f.length), arr[j]? = some (.bool f[j])
theorem Flags.cell {w : World} {g : Nat} {f : List Bool} (h : Flags w g f) {j : Nat} (hj : j < f.length) : w.cell? ⟨g, j, none⟩ = some (.bool f[j]) := by
  obtain ⟨arr, h1, h2, h3⟩ := h
  rw [cell_of_row w g j _ _ _ h1]; exact h3 j hj
theorem Flags.free {w : World} {g : Nat} {f : List Bool} (h : Flags w g f) (j : Nat) : w.frozen? ⟨g, j, none⟩ = false := by
  obtain ⟨arr, h1, _⟩ := h
  simp [World.frozen?, h1]
theorem Flags.lt {w : World} {g : Nat} {f : List Bool} (h : Flags w g f) : g < w.heap.size := by
  obtain ⟨arr, h1, _⟩ := h
  exact lt_of_block h1
theorem Flags.gr {w w' : World} {g : Nat} {f : List Bool} {row : Option Nat} (h : Flags w g f) (hg : Gr w w' row) (hr : row ≠ some g) : Flags w' g f := by
  have hlt := h.lt
  obtain ⟨arr, h1, h2, h3⟩ := h
  exact ⟨arr, by rw [hg.block g hlt (fun e => hr e.symm)]; exact h1, h2, h3⟩
theorem Flags.set {w : World} {g : Nat} {f : List Bool} (h : Flags w g f) {k : Nat} (b : Bool) : Flags (w.setCell ⟨g, k, none⟩ (.bool b)) g (f.set k b) := by
  obtain ⟨arr, h1, h2, h3⟩ := h
  refine ⟨_, row_set _ h1, by simpa using h2, fun j hj => ?_⟩
  have hj' : j < f.length := by simpa using hj
  by_cases e : k = j
  · subst e; simp [h2, hj']
  · rw [Array.getElem?_setIfInBounds_ne e, h3 j hj']; simp [List.getElem_set_ne e]
theorem Flags.new (w : World) (n : Nat) : Flags (w.alloc (.cells (madeCells #[.bool false] n) 4)) w.heap.size (List.replicate n false) :=
  ⟨_, heap1_0 _ _, by simp [madeCells], fun j hj => by
    rw [← Array.getElem?_toList, toList_madeCells_one, List.getElem?_replicate, if_pos (by simpa using hj)]
    simp⟩
theorem Binfo : (Try.prog.info? 4).map (fun i => (i.zero, i.size, i.bytes)) = some (some (.bool false), 1, 1) := by kernel_rfl
end Go.Proofs.Ytadlnjglpigjmaa

namespace Go.Proofs.Ytadlnjglpigjmaa

open Go.RowKit

/-- A list of marks is handed back: those that can be reached. -/
def Marked (L : List Pt) (S : List Nat) (x : Int) (w : World) (e : Ending) (w' : World) : Prop :=
  ∃ (gf : Nat) (f : List Bool), e = .returned (.slice (some ⟨gf, 0, none⟩) L.length L.length) ∧ Flags w' gf f ∧ f.length = L.length ∧ (∀ k, f[k]? = some true ↔ Rch L S x k) ∧ Gr w w' none ∧ w.heap.size ≤ gf
theorem zs_app (a b : List Nat) : zs (a ++ b) = zs a ++ zs b := by simp [zs]
theorem que_new (w : World) (base : Nat) (hb : base ≤ w.heap.size) (a : Nat) : Que (w.alloc (.cells #[.int .i64 (a : Int)] 3)) base w.heap.size 0 1 1 (zs [a]) := by
  have h := heap1_0 w (.cells #[.int .i64 (a : Int)] 3)
  refine ⟨hb, by simp, by simp [zs], Nat.le_refl _, fun j hj => ?_, fun j u hu => ?_⟩
  · obtain rfl : j = 0 := by omega
    exact ⟨by rw [cell_of_row _ _ _ _ _ _ h]; rfl, by unfold World.frozen?; rw [h]; rfl⟩
  · have hj : j < 1 := by simpa [ints, zs] using (List.getElem?_eq_some_iff.1 hu).1
    obtain rfl : j = 0 := by omega
    rw [cell_of_row _ _ _ _ _ _ h]
    simpa [ints, zs] using hu

end Go.Proofs.Ytadlnjglpigjmaa

namespace Go.Proofs.Ytadlnjglpigjmaa

open Go.RowKit

end Go.Proofs.Ytadlnjglpigjmaa

namespace Go.Proofs.Ytadlnjglpigjmaa

open Go.RowKit

/-- Whether a point can be reached, as a Bool. -/
noncomputable def reach (L : List Pt) (S : List Nat) (x : Int) (k : Nat) : Bool := @decide (Rch L S x k) (Classical.propDecidable _)
theorem reach_of {L : List Pt} {S : List Nat} {x : Int} {f : List Bool} (h : ∀ k : Nat, f[k]? = some true ↔ Rch L S x k) {k : Nat} (hk : k < f.length) : f[k] = reach L S x k := by
  unfold reach
  cases e : f[k] with
  | true =>
    have := (h k).1 (by rw [List.getElem?_eq_getElem hk, e])
    simp [this]
  | false =>
    have : ¬ Rch L S x k := fun hr => by
      have := (h k).2 hr
      rw [List.getElem?_eq_getElem hk, e] at this
      simp at this
    simp [this]
theorem Marked.cell {L : List Pt} {S : List Nat} {x : Int} {w' : World} {gf : Nat} {f : List Bool} (hF : Flags w' gf f) (hl : f.length = L.length) (h : ∀ k : Nat, f[k]? = some true ↔ Rch L S x k) {k : Nat} (hk : k < L.length) :
    w'.cell? ⟨gf, k, none⟩ = some (.bool (reach L S x k)) := by
  rw [hF.cell (by omega), reach_of h]

/-- Whether a program has both points. -/
def hasTwo (p : Pr) (a b : Int) : Bool := decide (0 ≤ a) && decide (a < (ptsOf p).length) && decide (0 ≤ b) && decide (b < (ptsOf p).length)
theorem hasTwo_in {p : Pr} {a b : Int} (h : hasTwo p a b = true) : ∃ j k : Nat, a = j ∧ b = k ∧ j < (ptsOf p).length ∧ k < (ptsOf p).length ∧ validP p = true ∧ ptsOf p = pts p := by
  unfold hasTwo at h
  simp at h
  have hv : validP p = true := by
    cases hv : validP p with
    | true => rfl
    | false => exfalso; unfold ptsOf at h; rw [hv] at h; simp at h; omega
  exact ⟨a.toNat, b.toNat, by omega, by omega, by omega, by omega, hv, by unfold ptsOf; rw [if_pos hv]⟩

/-! ### Dominating -/

noncomputable def domL (L : List Pt) (j k : Nat) : Bool := decide (j = k) || !reach L [0] j k
end Go.Proofs.Ytadlnjglpigjmaa

namespace Go.Proofs.Ytadlnjglpigjmaa

open Go.RowKit

/-- What Dominates says. -/
noncomputable def dominates (p : Pr) (a b : Int) : Bool := hasTwo p a b && domL (ptsOf p) a.toNat b.toNat
theorem dominates_in {p : Pr} {j k : Nat} (h : hasTwo p j k = true) : dominates p j k = domL (ptsOf p) j k := by simp [dominates, h]
theorem dominates_out {p : Pr} {a b : Int} (h : hasTwo p a b = false) : dominates p a b = false := by simp [dominates, h]

/-- Two points, as graphOf takes them. -/
theorem graphOk_two (p : Pr) (a b : Int) : graphOk p [a, b] = hasTwo p a b := by
  unfold graphOk hasTwo ptsOf
  cases h : validP p with
  | true => rw [Bool.eq_iff_iff]; simp [within]; omega
  | false => rw [Bool.eq_iff_iff]; simp
theorem inAt_two (w : World) (A : Obj) (a b : Int) : InAt ((w.alloc A).alloc (.cells #[.int .i64 a, .int .i64 b] 3)) Any [a, b] (some ⟨w.heap.size + 1, 0, none⟩) := by
  refine InAt.of fun j hj => ⟨trivial, ?_⟩
  rw [cell_of_row _ _ _ _ _ _ (heap2_1 _ _ _)]
  have : j = 0 ∨ j = 1 := by simp at hj; omega
  rcases this with rfl | rfl <;> rfl

/-! ### Always reaching -/

noncomputable def alwL (L : List Pt) (j k : Nat) : Bool := decide (j = k) || !reach L [j] k (L.length - 1)
/-- What AlwaysReaches says. -/
noncomputable def alwaysReaches (p : Pr) (a b : Int) : Bool := hasTwo p a b && alwL (ptsOf p) a.toNat b.toNat
theorem alwaysReaches_in {p : Pr} {j k : Nat} (h : hasTwo p j k = true) : alwaysReaches p j k = alwL (ptsOf p) j k := by simp [alwaysReaches, h]
theorem alwaysReaches_out {p : Pr} {a b : Int} (h : hasTwo p a b = false) : alwaysReaches p a b = false := by simp [alwaysReaches, h]
end Go.Proofs.Ytadlnjglpigjmaa

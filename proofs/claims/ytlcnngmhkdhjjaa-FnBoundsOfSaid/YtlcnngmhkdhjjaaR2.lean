/- The points that come next are points. A list of marks in memory. No walk stands here. -/
import Derived.Test.YtlcnngmhkdhjjaaR

import Derived.Test.YtlcnngmhkdhjjaaQ

import Derived.Test.YtlcnngmhkdhjjaaH5

namespace Go.Proofs.Ytlcnngmhkdhjjaa

open Go.RowKit

def NextIn (l : List Pt) (m : Nat) : Prop := ∀ q ∈ l, q.next.length ≤ 2 ∧ ∀ j ∈ q.next, j ≤ m
theorem NextIn.mono {l : List Pt} {m m' : Nat} (h : NextIn l m) (hm : m ≤ m') : NextIn l m' := fun q hq => ⟨(h q hq).1, fun j hj => by have := (h q hq).2 j hj; omega⟩
theorem NextIn.app {l l' : List Pt} {m : Nat} (h : NextIn l m) (h' : NextIn l' m) : NextIn (l ++ l') m := fun q hq => by
  rcases List.mem_append.1 hq with r | r
  · exact h q r
  · exact h' q r
theorem NextIn.one {q : Pt} {m : Nat} (h : q.next.length ≤ 2) (h' : ∀ j ∈ q.next, j ≤ m) : NextIn [q] m := fun r hr => by
  simp at hr
  subst hr
  exact ⟨h, h'⟩
mutual
theorem ptsS_next : ∀ (s : St) (a : Nat), NextIn (ptsS s a) (a + (ptsS s a).length)
  | .mk op x y n t e, a => by
    have h1 := ptsL_next t (a + 1)
    have h2 := ptsL_next e (a + 1 + (ptsL t (a + 1)).length + 1)
    simp only [ptsS]
    split
    · simp only [List.length_append, List.length_cons, List.length_nil]
      refine (((NextIn.one (by simp) (by simp; omega)).app (h1.mono (by omega))).app (NextIn.one (by simp) (by simp; omega))).app (h2.mono (by omega))
    · split
      · simp only [List.length_append, List.length_cons, List.length_nil]
        exact ((NextIn.one (by simp) (by simp; omega)).app (h1.mono (by omega))).app (NextIn.one (by simp) (by simp))
      · exact NextIn.one (by simp) (by simp)
theorem ptsL_next : ∀ (l : List St) (a : Nat), NextIn (ptsL l a) (a + (ptsL l a).length)
  | [], a => by intro q hq; simp [ptsL] at hq
  | s :: r, a => by
    have h1 := ptsS_next s a
    have h2 := ptsL_next r (a + (ptsS s a).length)
    simp only [ptsL, List.length_append]
    exact (h1.mono (by omega)).app (h2.mono (by omega))
end
theorem pts_next (p : Pr) : NextOk (pts p) := by
  intro k hk
  have h := ptsL_next p.body 0
  rw [nextOf_get hk]
  have hm := List.getElem_mem hk
  have hl : (pts p).length = (ptsL p.body 0).length + 1 := by simp [pts]
  rcases List.mem_append.1 (show (pts p)[k] ∈ ptsL p.body 0 ++ [⟨11, 0, 0, 0, []⟩] from hm) with q | q
  · have := h _ q
    exact ⟨this.1, fun j hj => by have := this.2 j hj; omega⟩
  · simp at q
    rw [q]
    simp

/-! ### Marks -/

/-- The marks f lie in the block g. -/
def Flags (w : World) (g : Nat) (f : List Bool) : Prop := ∃ arr : Array Value, w.heap[g]? = some (.cells arr 4 (0, 0)) ∧ arr.size = f.length ∧ ∀ j (h : j < f.length), arr[j]? = some (.bool f[j])
theorem Flags.cell {w : World} {g : Nat} {f : List Bool} (h : Flags w g f) {j : Nat} (hj : j < f.length) : w.cell? ⟨g, j, none⟩ = some (.bool f[j]) := by
  obtain ⟨arr, h1, h2, h3⟩ := h
  rw [cell_of_row w g j _ _ _ h1]; exact h3 j hj
theorem Flags.free {w : World} {g : Nat} {f : List Bool} (h : Flags w g f) (j : Nat) : w.frozen? ⟨g, j, none⟩ = false := by
  obtain ⟨arr, h1, _⟩ := h
  simp [World.frozen?, h1]
theorem Flags.lt {w : World} {g : Nat} {f : List Bool} (h : Flags w g f) : g < w.heap.size := by
  obtain ⟨arr, h1, _⟩ := h
  exact lt_of_block h1
theorem Flags.gr {w w' : World} {g : Nat} {f : List Bool} {row : Option Nat} (h : Flags w g f) (hg : Gr w w' row) (hr : row ≠ some g) : Flags w' g f := by
  have hlt := h.lt
  obtain ⟨arr, h1, h2, h3⟩ := h
  exact ⟨arr, by rw [hg.block g hlt (fun e => hr e.symm)]; exact h1, h2, h3⟩
theorem Flags.set {w : World} {g : Nat} {f : List Bool} (h : Flags w g f) {k : Nat} (b : Bool) : Flags (w.setCell ⟨g, k, none⟩ (.bool b)) g (f.set k b) := by
  obtain ⟨arr, h1, h2, h3⟩ := h
  refine ⟨_, row_set _ h1, by simpa using h2, fun j hj => ?_⟩
  have hj' : j < f.length := by simpa using hj
  by_cases e : k = j
  · subst e; simp [h2, hj']
  · rw [Array.getElem?_setIfInBounds_ne e, h3 j hj']; simp [List.getElem_set_ne e]
theorem Flags.new (w : World) (n : Nat) : Flags (w.alloc (.cells (madeCells #[.bool false] n) 4)) w.heap.size (List.replicate n false) :=
  ⟨_, heap1_0 _ _, by simp [madeCells], fun j hj => by
    rw [← Array.getElem?_toList, toList_madeCells_one, List.getElem?_replicate, if_pos (by simpa using hj)]
    simp⟩
theorem Binfo : (Try.prog.info? 4).map (fun i => (i.zero, i.size, i.bytes)) = some (some (.bool false), 1, 1) := by kernel_rfl
end Go.Proofs.Ytlcnngmhkdhjjaa

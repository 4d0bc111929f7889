/- A drawn program held in a local: what the laws' walks carry. -/
import Derived.Test.YtadidppbhpdnkaaG2

import Derived.Test.YtadidppbhpdnkaaB15

import Derived.Test.YtadidppbhpdnkaaY3

namespace Go.Proofs.Ytadidppbhpdnkaa

open Go.RowKit

/-- The program p lies in the two cells of block b. -/
def PrIn (u : World) (b : Nat) (p : Pr) (at' ab : Option Addr) (ct cb : Nat) : Prop :=
  u.cell? ⟨b, 0, none⟩ = some (.slice at' p.types.length ct) ∧ u.cell? ⟨b, 1, none⟩ = some (.slice ab p.body.length cb) ∧ InAt u Any p.types at' ∧ SlAt u Any p.body ab
theorem PrIn.gr {u u' : World} {b : Nat} {p : Pr} {at' ab : Option Addr} {ct cb : Nat} (h : PrIn u b p at' ab ct cb) (hg : Gr u u' none) : PrIn u' b p at' ab ct cb :=
  ⟨hg.cell h.1 (by simp), hg.cell h.2.1 (by simp), h.2.2.1.gr0 hg, h.2.2.2.gr0 hg⟩
theorem PrIn.new {w u : World} {p : Pr} {at' ab : Option Addr} {ct cb : Nat} (hT : InAt u (New w.heap.size) p.types at') (hB : SlAt u (New w.heap.size) p.body ab) :
    PrIn (u.alloc (.cells #[.slice at' p.types.length ct, .slice ab p.body.length cb] 26)) u.heap.size p at' ab ct cb :=
  ⟨cell_of_row _ _ _ _ _ _ (heap1_0 _ _), cell_of_row _ _ _ _ _ _ (heap1_0 _ _), (hT.mono (fun _ _ _ => trivial) (fun _ _ _ _ h => h)).gr0 ((Gr.refl _ _).alloc _), (hB.sub fun _ _ _ => trivial).gr0 ((Gr.refl _ _).alloc _)⟩
theorem ptsOf_next (p : Pr) : NextOk (ptsOf p) := by
  unfold ptsOf
  split
  · exact pts_next p
  · intro k hk; exact absurd hk (by simp)
theorem PtAt.gr {u u' : World} {q : Pt} {b off : Nat} (h : PtAt u q b off) (hg : Gr u u' none) : PtAt u' q b off := by
  obtain ⟨an, cn, c0, c1, c2, c3, c4, hin, hcn⟩ := h
  exact ⟨an, cn, hg.cell c0 (by simp), hg.cell c1 (by simp), hg.cell c2 (by simp), hg.cell c3 (by simp), hg.cell c4 (by simp), hin.gr0 hg, hcn⟩
theorem any_take {l : List Nat} {f : Nat → Bool} {j : Nat} (h : j < l.length) : (l.take (j + 1)).any f = ((l.take j).any f || f l[j]) := by
  rw [List.take_add_one, List.any_append, List.getElem?_eq_getElem h]; simp
end Go.Proofs.Ytadidppbhpdnkaa

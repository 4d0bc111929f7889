/- Cells in the reference: the walk of MayAlias. -/
import Derived.Test.YtadlnjglpigjmaaDQ

import Derived.Test.YtadlnjglpigjmaaDJ

import Derived.Deep.RegionWith

namespace Go.Proofs.Ytadlnjglpigjmaa

open Go.RowKit

theorem trk_in {p : Pr} (hv : validP p = true) {kd : Int} {size : Nat} {val : Nat → (Nat × Nat → Prop) → Nat → Prop} (hk : KindOk p kd size val) {i v k : Nat} (h : trkB p val i v k = true) : v < p.types.length ∧ k < size := by
  have h1 := trkB_iff.1 h
  have := h1 (fun _ b => b.1 < p.types.length ∧ b.2 < size) (by
    rintro i b (⟨_, hb⟩ | ⟨j, hj, hn, hb⟩)
    · exact hb.elim
    · have hf := rowB_iff hv hk hj (F := fun v k => decide (v < p.types.length) && decide (k < size)) (fun v k h => by simpa using h) rfl b
      have h2 := hf.2 (trkA_mono hk.2.1 j _ _ (fun b hb => by simpa using hb) b hb)
      unfold rowB at h2
      simp only [Bool.and_eq_true, decide_eq_true_eq] at h2
      exact ⟨h2.1, h2.2.1⟩)
  exact this
theorem kind_cells {p : Pr} (_hv : validP p = true) : KindOk p 0 (pts p).length (cellV (pts p)) := by
  refine ⟨.inl rfl, cellV_mono _, fun _ => rfl, (fun h => by omega), fun i hi F hF k => ?_⟩
  unfold valB cellV
  rw [if_neg (by omega), if_pos rfl]
  by_cases h2 : (ptAt (pts p) i).op = 2
  · rw [if_pos h2, decide_eq_true_eq]
    constructor
    · exact fun h => .inl ⟨h2, h.2⟩
    · rintro (h | h)
      · exact ⟨by omega, h.2⟩
      · omega
  · rw [if_neg h2]
    by_cases h3 : (ptAt (pts p) i).op = 3 ∨ (ptAt (pts p) i).op = 4 ∨ (ptAt (pts p) i).op = 5
    · rw [if_pos h3]
      constructor
      · exact fun h => .inr ⟨h3, h.2⟩
      · rintro (h | h)
        · exact absurd h.1 h2
        · exact ⟨(hF _ _ h.2).2, h.2⟩
    · rw [if_neg h3]
      constructor
      · exact fun h => by cases h.2
      · rintro (h | h)
        · exact absurd h.1 h2
        · exact absurd h.1 h3
end Go.Proofs.Ytadlnjglpigjmaa

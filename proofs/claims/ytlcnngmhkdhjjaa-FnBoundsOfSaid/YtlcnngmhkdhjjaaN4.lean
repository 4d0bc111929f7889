/- PathsFrom and PathsTo, of the program and of the reference: both hand back the same lists. -/
import Derived.Test.YtlcnngmhkdhjjaaN3

import Derived.Test.YtlcnngmhkdhjjaaN1

namespace Go.Proofs.Ytlcnngmhkdhjjaa

open Go.RowKit

theorem one_cases (p : Pr) (a : Int) : (∃ k : Nat, a = k ∧ k < (ptsOf p).length ∧ ptsOf p = pts p ∧ hasTwo p a a = true) ∨ ((a < 0 ∨ (ptsOf p).length ≤ a) ∧ hasTwo p a a = false) := by
  cases h : hasTwo p a a with
  | true =>
    obtain ⟨j, k, e1, e2, hj, hk, hv, hpp⟩ := hasTwo_in h
    exact .inl ⟨j, e1, hj, hpp, rfl⟩
  | false =>
    refine .inr ⟨?_, rfl⟩
    unfold hasTwo at h
    by_cases h1 : a < 0
    · exact .inl h1
    · refine .inr ?_
      by_cases h2 : a < (ptsOf p).length
      · simp at h; omega
      · omega
theorem pts_ok {p : Pr} (h : ptsOf p = pts p) : NextOk (ptsOf p) := by rw [h]; exact pts_next p
/-- Does the point j lead to the point k? -/
noncomputable def leads (L : List Pt) (j k : Nat) : Bool := reach L (nextOf L j) (-1) k
theorem Marked.leads {L : List Pt} {j : Nat} {w' : World} {gf : Nat} {f : List Bool} (hF : Flags w' gf f) (hl : f.length = L.length) (h : ∀ k : Nat, f[k]? = some true ↔ Rch L (nextOf L j) (-1) k) {k : Nat} (hk : k < L.length) :
    w'.cell? ⟨gf, k, none⟩ = some (.bool (leads L j k)) := Marked.cell hF hl h hk

/-- What PathsFrom says. -/
noncomputable def pathsFrom (p : Pr) (a : Int) : List Int := if hasTwo p a a = true then coll (fun k => leads (ptsOf p) a.toNat k) (ptsOf p).length else []
theorem pathsFrom_len (p : Pr) (a : Int) : (pathsFrom p a).length ≤ 1048576 := by
  unfold pathsFrom
  split
  · have := coll_le (fun k => leads (ptsOf p) a.toNat k) (ptsOf p).length
    have := ptsOf_le p
    omega
  · simp
theorem pathsFrom_in {p : Pr} {j : Nat} (h : hasTwo p j j = true) : pathsFrom p j = coll (fun k => leads (ptsOf p) j k) (ptsOf p).length := by simp [pathsFrom, h]
theorem pathsFrom_out {p : Pr} {a : Int} (h : hasTwo p a a = false) : pathsFrom p a = [] := by simp [pathsFrom, h]
/-- What PathsTo says. -/
noncomputable def pathsTo (p : Pr) (a : Int) : List Int := if hasTwo p a a = true then coll (fun k => leads (ptsOf p) k a.toNat) (ptsOf p).length else []
theorem pathsTo_len (p : Pr) (a : Int) : (pathsTo p a).length ≤ 1048576 := by
  unfold pathsTo
  split
  · have := coll_le (fun k => leads (ptsOf p) k a.toNat) (ptsOf p).length
    have := ptsOf_le p
    omega
  · simp
theorem pathsTo_in {p : Pr} {j : Nat} (h : hasTwo p j j = true) : pathsTo p j = coll (fun k => leads (ptsOf p) k j) (ptsOf p).length := by simp [pathsTo, h]
theorem pathsTo_out {p : Pr} {a : Int} (h : hasTwo p a a = false) : pathsTo p a = [] := by simp [pathsTo, h]

theorem HandI.after {l : List Int} {w0 w w' : World} {e : Ending} (h : HandI l w e w') (hg : Gr w0 w none) : HandI l w0 e w' := by
  obtain ⟨a, c, he, h1, h2, h3, h4⟩ := h
  exact ⟨a, c, he, h1, fun g hgo => ⟨Nat.le_trans hg.size (h2 g hgo).1, (h2 g hgo).2⟩, h3, hg.trans0 h4⟩
end Go.Proofs.Ytlcnngmhkdhjjaa

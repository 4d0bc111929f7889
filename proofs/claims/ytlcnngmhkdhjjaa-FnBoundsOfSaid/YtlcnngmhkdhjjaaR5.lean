/- Dominating: walks of Dominates, in the program and in the reference. -/
import Derived.Test.YtlcnngmhkdhjjaaR4

import Derived.Test.YtlcnngmhkdhjjaaS1

namespace Go.Proofs.Ytlcnngmhkdhjjaa

open Go.RowKit

/-- Whether a point can be reached, as a Bool. -/
noncomputable def reach (L : List Pt) (S : List Nat) (x : Int) (k : Nat) : Bool := @decide (Rch L S x k) (Classical.propDecidable _)
theorem reach_of {L : List Pt} {S : List Nat} {x : Int} {f : List Bool} (h : ∀ k : Nat, f[k]? = some true ↔ Rch L S x k) {k : Nat} (hk : k < f.length) : f[k] = reach L S x k := by
  unfold reach
  cases e : f[k] with
  | true =>
    have := (h k).1 (by rw [List.getElem?_eq_getElem hk, e])
    simp [this]
  | false =>
    have : ¬ Rch L S x k := fun hr => by
      have := (h k).2 hr
      rw [List.getElem?_eq_getElem hk, e] at this
      simp at this
    simp [this]
theorem Marked.cell {L : List Pt} {S : List Nat} {x : Int} {w' : World} {gf : Nat} {f : List Bool} (hF : Flags w' gf f) (hl : f.length = L.length) (h : ∀ k : Nat, f[k]? = some true ↔ Rch L S x k) {k : Nat} (hk : k < L.length) :
    w'.cell? ⟨gf, k, none⟩ = some (.bool (reach L S x k)) := by
  rw [hF.cell (by omega), reach_of h]

/-- Whether a program has both points. -/
def hasTwo (p : Pr) (a b : Int) : Bool := decide (0 ≤ a) && decide (a < (ptsOf p).length) && decide (0 ≤ b) && decide (b < (ptsOf p).length)
set_option maxHeartbeats 1000000 in
theorem l12Has_any (p : Pr) (a b : Int) (at' ab : Option Addr) (ct cb : Nat) (w : World) (hT : InAt w Any p.types at') (hB : SlAt w Any p.body ab) (hs : p.types.length ≤ 1048576) (hc : St.count p.body ≤ 1048576) :
    Calls Try.prog 80 #[.agg #[.slice at' p.types.length ct, .slice ab p.body.length cb], .int .i64 a, .int .i64 b] w fun e w' => e = .returned (.bool (hasTwo p a b)) ∧ Gr w w' none := by
  have hg1 : ∀ o, Gr w (w.alloc o) none := fun o => (Gr.refl _ _).alloc _
  go_enter Try.func80, Try.ntmps80
  go_wp2_with fail
  refine (specPointsOf_any p at' ab ct cb _ (hT.gr0 (hg1 _)) (hB.gr0 (hg1 _)) hs hc).mono ?_
  rintro e w1 ⟨L, al, c, hL, rfl, hown, hg⟩
  have hG1 : Gr w w1 none := (hg1 _).trans0 hg
  have hLl : L.length ≤ 61 := by rw [hL]; exact ptsOf_le p
  have hP : hasTwo p a b = (decide (0 ≤ a) && decide (a < L.length) && decide (0 ≤ b) && decide (b < L.length)) := by unfold hasTwo; rw [hL]
  have HP := Lib.hid hP
  clear hP hL hown hg
  by_cases h0 : 0 ≤ a
  · have H0 := Lib.hid (decide_eq_true h0)
    by_cases h1 : a < L.length
    · have H1 := Lib.hid (decide_eq_true h1)
      by_cases h2 : 0 ≤ b
      · have H2 := Lib.hid (decide_eq_true h2)
        by_cases h3 : b < L.length
        · have H3 := Lib.hid (decide_eq_true h3)
          go_wp2_with fail
          go_ret
          exact ⟨ret_bool (by rw [HP.out, H0.out, H1.out, H2.out, H3.out]; rfl), hG1⟩
        · have H3 := Lib.hid (decide_eq_false h3)
          go_wp2_with fail
          go_ret
          exact ⟨ret_bool (by rw [HP.out, H0.out, H1.out, H2.out, H3.out]; rfl), hG1⟩
      · have H2 := Lib.hid (decide_eq_false h2)
        go_wp2_with fail
        go_ret
        exact ⟨ret_bool (by rw [HP.out, H0.out, H1.out, H2.out]; rfl), hG1⟩
    · have H1 := Lib.hid (decide_eq_false h1)
      go_wp2_with fail
      go_ret
      exact ⟨ret_bool (by rw [HP.out, H0.out, H1.out]; rfl), hG1⟩
  · have H0 := Lib.hid (decide_eq_false h0)
    go_wp2_with fail
    go_ret
    exact ⟨ret_bool (by rw [HP.out, H0.out]; rfl), hG1⟩
theorem hasTwo_in {p : Pr} {a b : Int} (h : hasTwo p a b = true) : ∃ j k : Nat, a = j ∧ b = k ∧ j < (ptsOf p).length ∧ k < (ptsOf p).length ∧ validP p = true ∧ ptsOf p = pts p := by
  unfold hasTwo at h
  simp at h
  have hv : validP p = true := by
    cases hv : validP p with
    | true => rfl
    | false => exfalso; unfold ptsOf at h; rw [hv] at h; simp at h; omega
  exact ⟨a.toNat, b.toNat, by omega, by omega, by omega, by omega, hv, by unfold ptsOf; rw [if_pos hv]⟩

/-! ### Dominating -/

noncomputable def domL (L : List Pt) (j k : Nat) : Bool := decide (j = k) || !reach L [0] j k
set_option maxHeartbeats 1000000 in
theorem l12Dominates_any (L : List Pt) (ao : Option Addr) (co j k : Nat) (w : World) (hP : PtsAt w L ao) (hL : NextOk L) (hl : L.length ≤ 100) (hk : k < L.length) :
    Calls Try.prog 91 #[.slice ao L.length co, .int .i64 j, .int .i64 k] w fun e w' => e = .returned (.bool (domL L j k)) ∧ Gr w w' none := by
  go_enter Try.func91, Try.ntmps91
  by_cases e : j = k
  · subst e
    go_wp2_with fail
    go_ret
    exact ⟨ret_bool (by simp [domL]), Gr.refl _ _⟩
  · have e' : ¬ (j : Int) = (k : Int) := by omega
    go_wp2_with fail
    refine (l12Reach_any L ao co 0 j _ hP hL hl (by omega)).mono ?_
    rintro e w1 ⟨gf, f, rfl, hF, hfl, hr, hg, _⟩
    have hc := Marked.cell hF hfl hr hk
    clear hF hr
    go_wp2_with fail
    go_ret
    exact ⟨ret_bool (by simp [domL, e]), hg⟩
set_option maxHeartbeats 1000000 in
theorem dominates_any (p : Pr) (gb j k : Nat) (w : World) (hG : GraphAt w p gb) (hl : (pts p).length ≤ 100) (hk : k < (pts p).length) :
    Calls Try.prog 90 #[.pointer (some ⟨gb, 0, none⟩), .int .i64 j, .int .i64 k] w fun e w' => e = .returned (.bool (domL (pts p) j k)) ∧ Gr w w' none := by
  go_enter Try.func90, Try.ntmps90
  by_cases e : j = k
  · subst e
    go_wp2_with fail
    go_ret
    exact ⟨ret_bool (by simp [domL]), Gr.refl _ _⟩
  · have e' : ¬ (j : Int) = (k : Int) := by omega
    go_wp2_with fail
    refine (around_any p gb 0 j _ hG hl (by omega)).mono ?_
    rintro e w1 ⟨gf, f, rfl, hF, hfl, hr, hg, _⟩
    have hc := Marked.cell hF hfl hr hk
    clear hF hr
    go_wp2_with fail
    go_ret
    exact ⟨ret_bool (by simp [domL, e]), hg⟩
end Go.Proofs.Ytlcnngmhkdhjjaa

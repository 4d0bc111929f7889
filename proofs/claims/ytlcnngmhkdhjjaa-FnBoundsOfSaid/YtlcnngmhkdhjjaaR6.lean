/- Dominates and AlwaysReaches, of the program and of the reference: both hand back the same. -/
import Derived.Test.YtlcnngmhkdhjjaaR5

import Derived.Deep.RegionWith

import Derived.Deep.DeepCutAuto

namespace Go.Proofs.Ytlcnngmhkdhjjaa

open Go.RowKit

/-- What Dominates says. -/
noncomputable def dominates (p : Pr) (a b : Int) : Bool := hasTwo p a b && domL (ptsOf p) a.toNat b.toNat
theorem dominates_in {p : Pr} {j k : Nat} (h : hasTwo p j k = true) : dominates p j k = domL (ptsOf p) j k := by simp [dominates, h]
theorem dominates_out {p : Pr} {a b : Int} (h : hasTwo p a b = false) : dominates p a b = false := by simp [dominates, h]

set_option maxHeartbeats 1000000 in
theorem specDominates_any (p : Pr) (a b : Int) (at' ab : Option Addr) (ct cb : Nat) (w : World) (hT : InAt w Any p.types at') (hB : SlAt w Any p.body ab) (hs : p.types.length ≤ 1048576) (hc : St.count p.body ≤ 1048576) :
    Calls Try.prog 35 #[.agg #[.slice at' p.types.length ct, .slice ab p.body.length cb], .int .i64 a, .int .i64 b] w fun e w' => e = .returned (.bool (dominates p a b)) ∧ Gr w w' none := by
  have hlc := count_length p.body
  have hg1 : ∀ o, Gr w (w.alloc o) none := fun o => (Gr.refl _ _).alloc _
  go_enter Try.func35, Try.ntmps35
  go_wp2_with fail
  refine (l12Has_any p a b at' ab ct cb _ (hT.gr0 (hg1 _)) (hB.gr0 (hg1 _)) hs hc).mono ?_
  rintro e w1 ⟨rfl, hg⟩
  have hG1 : Gr w w1 none := (hg1 _).trans0 hg
  have q0 : w1.cell? ⟨w.heap.size, 0, none⟩ = some (.slice at' p.types.length ct) := hg.cell (p := ⟨w.heap.size, 0, none⟩) (cell?_new2 _ _).1 (by simp)
  have q1 : w1.cell? ⟨w.heap.size, 1, none⟩ = some (.slice ab p.body.length cb) := hg.cell (p := ⟨w.heap.size, 1, none⟩) (cell?_new2 _ _).2 (by simp)
  clear hg
  cases h2 : hasTwo p a b with
  | false =>
    have HO := Lib.hid (dominates_out h2)
    clear h2
    go_wp2_with fail
    go_ret
    exact ⟨ret_bool HO.out.symm, hG1⟩
  | true =>
    obtain ⟨j, k, rfl, rfl, hj, hk, hv, hpp⟩ := hasTwo_in h2
    have hcnt := valid_count hv
    have HO := Lib.hid (dominates_in h2)
    have hml := ptsOf_le p
    have HN := Lib.hid (show NextOk (ptsOf p) by rw [hpp]; exact pts_next p)
    have HPP := Lib.hid hpp
    clear h2 hv hpp
    go_wp2_with fail
    refine (l2Points_any p at' ab ct cb _ (hB.gr0 hG1) (by omega) (by unfold maxLen; omega)).mono ?_
    rintro e w2 ⟨M, am, c, hM, rfl, hown, hg2⟩
    have hMp : M = ptsOf p := hM.trans HPP.out.symm
    clear hM
    subst hMp
    go_wp2_with fail
    refine (l12Dominates_any (ptsOf p) am c j k _ hown.read HN.out (by omega) hk).mono ?_
    rintro e w3 ⟨rfl, hg3⟩
    go_wp2_with fail
    go_ret
    exact ⟨ret_bool HO.out.symm, (hG1.trans0 hg2).trans0 hg3⟩

/-- Two points, as graphOf takes them. -/
theorem graphOk_two (p : Pr) (a b : Int) : graphOk p [a, b] = hasTwo p a b := by
  unfold graphOk hasTwo ptsOf
  cases h : validP p with
  | true => rw [Bool.eq_iff_iff]; simp [within]; omega
  | false => rw [Bool.eq_iff_iff]; simp
theorem inAt_two (w : World) (A : Obj) (a b : Int) : InAt ((w.alloc A).alloc (.cells #[.int .i64 a, .int .i64 b] 3)) Any [a, b] (some ⟨w.heap.size + 1, 0, none⟩) := by
  refine InAt.of fun j hj => ⟨trivial, ?_⟩
  rw [cell_of_row _ _ _ _ _ _ (heap2_1 _ _ _)]
  have : j = 0 ∨ j = 1 := by simp at hj; omega
  rcases this with rfl | rfl <;> rfl

set_option maxHeartbeats 1000000 in
theorem implDominates_any (p : Pr) (a b : Int) (at' ab : Option Addr) (ct cb : Nat) (w : World) (hT : InAt w Any p.types at') (hB : SlAt w Any p.body ab) (hs : p.types.length ≤ 1048576) (hc : p.body.length ≤ 1048576) :
    Calls Try.prog 34 #[.agg #[.slice at' p.types.length ct, .slice ab p.body.length cb], .int .i64 a, .int .i64 b] w fun e w' => e = .returned (.bool (dominates p a b)) ∧ Gr w w' none := by
  have hg1 : ∀ o o', Gr w ((w.alloc o).alloc o') none := fun o o' => ((Gr.refl _ _).alloc _).alloc _
  go_enter Try.func34, Try.ntmps34
  go_wp2_with fail
  refine (graphOf_any p [a, b] at' ab _ ct cb _ _ (hT.gr0 (hg1 _ _)) (hB.gr0 (hg1 _ _)) (inAt_two _ _ _ _) hs hc (by simp)).mono ?_
  rintro e w1 ⟨hg, hif⟩
  have hG1 : Gr w w1 none := (hg1 _ _).trans0 hg
  rw [graphOk_two] at hif
  cases h2 : hasTwo p a b with
  | true =>
    rw [h2, if_pos rfl] at hif
    obtain ⟨gb, rfl, hgb, hGA⟩ := hif
    obtain ⟨j, k, rfl, rfl, hj, hk, hv, hpp⟩ := hasTwo_in h2
    have hml := ptsOf_le p
    have HO := Lib.hid (show domL (pts p) j k = dominates p j k by rw [dominates_in h2, hpp])
    rw [hpp] at hml hj hk
    clear h2 hv hpp
    go_wp2_with fail
    refine (dominates_any p gb j k _ hGA (by omega) hk).mono ?_
    rintro e w3 ⟨rfl, hg3⟩
    go_wp2_with fail
    go_ret
    exact ⟨ret_bool HO.out, hG1.trans0 hg3⟩
  | false =>
    rw [h2, if_neg (by simp)] at hif
    subst hif
    have HO := Lib.hid (dominates_out h2)
    clear h2
    go_wp2_with fail
    go_ret
    exact ⟨ret_bool HO.out.symm, hG1⟩

/-! ### Always reaching -/

noncomputable def alwL (L : List Pt) (j k : Nat) : Bool := decide (j = k) || !reach L [j] k (L.length - 1)
/-- What AlwaysReaches says. -/
noncomputable def alwaysReaches (p : Pr) (a b : Int) : Bool := hasTwo p a b && alwL (ptsOf p) a.toNat b.toNat
theorem alwaysReaches_in {p : Pr} {j k : Nat} (h : hasTwo p j k = true) : alwaysReaches p j k = alwL (ptsOf p) j k := by simp [alwaysReaches, h]
theorem alwaysReaches_out {p : Pr} {a b : Int} (h : hasTwo p a b = false) : alwaysReaches p a b = false := by simp [alwaysReaches, h]
set_option maxHeartbeats 1000000 in
theorem specAlwaysReaches_any (p : Pr) (a b : Int) (at' ab : Option Addr) (ct cb : Nat) (w : World) (hT : InAt w Any p.types at') (hB : SlAt w Any p.body ab) (hs : p.types.length ≤ 1048576) (hc : St.count p.body ≤ 1048576) :
    Calls Try.prog 30 #[.agg #[.slice at' p.types.length ct, .slice ab p.body.length cb], .int .i64 a, .int .i64 b] w fun e w' => e = .returned (.bool (alwaysReaches p a b)) ∧ Gr w w' none := by
  have hlc := count_length p.body
  have hg1 : ∀ o, Gr w (w.alloc o) none := fun o => (Gr.refl _ _).alloc _
  go_enter Try.func30, Try.ntmps30
  go_wp2_with fail
  refine (l12Has_any p a b at' ab ct cb _ (hT.gr0 (hg1 _)) (hB.gr0 (hg1 _)) hs hc).mono ?_
  rintro e w1 ⟨rfl, hg⟩
  have hG1 : Gr w w1 none := (hg1 _).trans0 hg
  have q0 : w1.cell? ⟨w.heap.size, 0, none⟩ = some (.slice at' p.types.length ct) := hg.cell (p := ⟨w.heap.size, 0, none⟩) (cell?_new2 _ _).1 (by simp)
  have q1 : w1.cell? ⟨w.heap.size, 1, none⟩ = some (.slice ab p.body.length cb) := hg.cell (p := ⟨w.heap.size, 1, none⟩) (cell?_new2 _ _).2 (by simp)
  clear hg
  cases h2 : hasTwo p a b with
  | false =>
    have HO := Lib.hid (alwaysReaches_out h2)
    clear h2
    go_wp2_with fail
    go_ret
    exact ⟨ret_bool HO.out.symm, hG1⟩
  | true =>
    obtain ⟨j, k, rfl, rfl, hj, hk, hv, hpp⟩ := hasTwo_in h2
    have hcnt := valid_count hv
    have HO := Lib.hid (alwaysReaches_in h2)
    have hml := ptsOf_le p
    have HN := Lib.hid (show NextOk (ptsOf p) by rw [hpp]; exact pts_next p)
    have HPP := Lib.hid hpp
    clear h2 hv hpp
    go_wp2_with fail
    refine (l2Points_any p at' ab ct cb _ (hB.gr0 hG1) (by omega) (by unfold maxLen; omega)).mono ?_
    rintro e w2 ⟨M, am, c, hM, rfl, hown, hg2⟩
    have hMp : ptsOf p = M := (hM.trans HPP.out.symm).symm
    clear hM
    have HMP := Lib.hid hMp
    rw [hMp] at hml hj hk
    have HN' := Lib.hid (show NextOk M by rw [← hMp]; exact HN.out)
    obtain ⟨m, hm⟩ : ∃ m, M.length = m + 1 := ⟨M.length - 1, by omega⟩
    clear hMp HN
    by_cases e : j = k
    · subst e
      go_wp2_with fail
      go_ret
      exact ⟨ret_bool (by rw [HO.out]; simp [alwL]), hG1.trans0 hg2⟩
    · have e' : ¬ (j : Int) = (k : Int) := by omega
      have HM := Lib.hid hm
      have hmb : m ≤ 100 := by omega
      clear hm
      go_wp2_with fail
      refine (l12Reach_any M am c j k _ hown.read HN'.out (by omega) hj).mono ?_
      rintro e w3 ⟨gf, f, rfl, hF, hfl, hr, hg3, _⟩
      have hc := Marked.cell hF hfl hr (k := m) (by have := HM.out; omega)
      clear hF hr hfl hown
      have hm := HM.out
      clear hml hj hk
      go_wp2_with fail
      go_ret
      exact ⟨ret_bool (by rw [HO.out, HMP.out]; simp [alwL, e, HM.out]), (hG1.trans0 hg2).trans0 hg3⟩
end Go.Proofs.Ytlcnngmhkdhjjaa

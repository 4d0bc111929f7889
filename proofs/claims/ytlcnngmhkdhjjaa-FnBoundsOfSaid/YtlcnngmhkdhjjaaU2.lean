/- UseOf of the program and of the reference: both hand back useOf, whatever they are given. -/
import Derived.Test.YtlcnngmhkdhjjaaU1

namespace Go.Proofs.Ytlcnngmhkdhjjaa

open Go.RowKit

set_option maxRecDepth 100000 in
set_option maxHeartbeats 2000000 in
theorem implUseOf_any (p : Pr) (a v : Int) (at' ab : Option Addr) (ct cb : Nat) (w : World) (hT : InAt w Any p.types at') (hB : SlAt w Any p.body ab) (hs : p.types.length ≤ 1048576) (hc : p.body.length ≤ 1048576) :
    Calls Try.prog 24 #[.agg #[.slice at' p.types.length ct, .slice ab p.body.length cb], .int .i64 a, .int .i64 v] w fun e w' => e = .returned (.int .i64 (useOf p a v)) ∧ Gr w w' none := by
  have hg1 : ∀ o o', Gr w ((w.alloc o).alloc o') none := fun o o' => ((Gr.refl _ _).alloc _).alloc _
  go_enter Try.func24, Try.ntmps24
  go_wp2_with fail
  refine (graphOf_any p [a] at' ab _ ct cb _ _ (hT.gr0 (hg1 _ _)) (hB.gr0 (hg1 _ _)) (InAt.of fun j hj => ⟨trivial, ?_⟩) hs hc (by simp)).mono ?_
  · have : j = 0 := by simp at hj; omega
    subst this
    exact cell_of_row _ _ 0 _ _ _ (heap2_1 _ _ _)
  rintro e w1 ⟨hg, hif⟩
  have hG1 : Gr w w1 none := (hg1 _ _).trans0 hg
  by_cases hok : graphOk p [a] = true
  · rw [if_pos hok] at hif
    obtain ⟨gb, rfl, hgb, hGA⟩ := hif
    have hval : validP p = true := by unfold graphOk at hok; rw [Bool.and_eq_true] at hok; exact hok.1
    have HPP := Lib.hid (show ptsOf p = pts p by unfold ptsOf; rw [if_pos hval])
    have hin : 0 ≤ a ∧ a < (ptsOf p).length := by
      unfold graphOk at hok
      rw [HPP.out]
      simp [within] at hok
      omega
    have hml : (ptsOf p).length ≤ 61 := ptsOf_le p
    obtain ⟨k, rfl⟩ := Int.eq_ofNat_of_zero_le hin.1
    have hk : k < (ptsOf p).length := by omega
    clear hval hok hin
    go_wp2_with fail
    refine (isVar_any p gb v _ hGA hs).mono ?_
    rintro e w2 ⟨rfl, rfl⟩
    cases hw : within v 0 ((p.types.length : Int) - 1) with
    | false =>
      have HO := Lib.hid (useOf_out (p := p) (a := k) (v := v) (by unfold within at hw; unfold hasPoint; simp at hw ⊢; omega))
      clear hw
      go_wp2_with fail
      go_ret
      exact ⟨ret_int HO.out.symm, hG1⟩
    | true =>
      have hin : 0 ≤ v ∧ v < p.types.length := by unfold within at hw; simp at hw; omega
      obtain ⟨j, rfl⟩ := Int.eq_ofNat_of_zero_le hin.1
      have hj : j < p.types.length := by omega
      clear hw hin
      have HGA := hGA
      obtain ⟨L, a3, n3, a4, n4, al, cl, hL, d0, d1, d2, hr1, hr2, hr3⟩ := hGA
      have hL' : L = ptsOf p := hL.trans HPP.out.symm
      have hkL : k < L.length := by rw [hL']; exact hk
      have hlL : L.length ≤ 61 := by rw [hL']; exact hml
      obtain ⟨b, off, rfl, an, cn, c0, c1, c2, c3, c4, hin', -⟩ := hr3 k hkL
      obtain ⟨q, eq⟩ : ∃ q, L[k] = q := ⟨_, rfl⟩
      have HO := Lib.hid (useOf_in (j := j) hL' hkL hj eq)
      rw [eq] at c0 c1 c2 c3 c4
      clear hL eq hL' d0 d1 hr1 hr2 hr3 hin'
      go_wp2_with fail
      refine (use_any p gb j q.op q.x q.y q.n (.slice an q.next.length cn) hj _ HGA hs).mono ?_
      rintro e w3 ⟨rfl, hg3⟩
      go_wp2_with fail
      go_ret
      exact ⟨ret_int HO.out.symm, hG1.trans0 hg3⟩
  · rw [if_neg hok] at hif
    subst hif
    have hO : useOf p a v = 0 := by
      refine useOf_out ?_
      unfold hasPoint ptsOf
      split
      · rename_i hv
        simp [graphOk, hv, within] at hok
        simp
        omega
      · simp
        omega
    have HO := Lib.hid hO
    clear hO hok
    go_wp2_with fail
    go_ret
    exact ⟨ret_int (by rw [HO.out]), hG1⟩
end Go.Proofs.Ytlcnngmhkdhjjaa

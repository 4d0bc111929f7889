/- The law FnUseOf: the walk of the law's own function. -/
import Derived.Test.YtpnaeijkllmihaaG3

import Derived.Test.YtpnaeijkllmihaaB18

import Derived.Test.YtpnaeijkllmihaaU2

import Derived.Test.YtpnaeijkllmihaaY3

namespace Go.Proofs.Ytpnaeijkllmihaa

open Go.RowKit

theorem useOf_vars {p : Pr} {t : Nat} {v : Int} {M : List Pt} {q : Pt} (hM : M = ptsOf p) (ht : t < M.length) (hq : M[t] = q) : useOf p t v = 0 ∨ v = q.x ∨ v = q.y := by
  by_cases hv : hasPoint p t v = true
  · unfold hasPoint at hv
    simp at hv
    obtain ⟨j, rfl⟩ : ∃ j : Nat, v = j := ⟨v.toNat, by omega⟩
    rw [useOf_in hM ht (show j < p.types.length by omega) hq]
    unfold useK
    repeat' split
    all_goals first | (left; rfl) | (right; left; omega) | (right; right; omega)
  · exact .inl (useOf_out (by simpa using hv))
theorem setBy_var {p : Pr} {t : Nat} {M : List Pt} {q : Pt} (hM : M = ptsOf p) (ht : t < M.length) (hq : M[t] = q) : setBy p t = -1 ∨ setBy p t = q.x := by
  rw [setBy_in hM ht hq]
  unfold setOf
  split
  · exact .inr rfl
  · exact .inl rfl

set_option maxRecDepth 100000 in
set_option maxHeartbeats 4000000 in
theorem fnUseOf_walk (a : Option Addr) (n c : Nat) (w : World) (h : BytesIn w a n) (hc : n ≤ c) (hm : n ≤ maxLen) :
    Calls Try.prog 15 #[.slice a n c] w fun e w' => e = .returned (.bool true) ∧ Gr w w' none := by
  unfold maxLen at hm
  by_cases hbig : 1048576 < n
  · go_enter Try.func15, Try.ntmps15
    go_wp2
    go_ret
    exact ⟨rfl, Gr.refl _ _⟩
  · go_enter Try.func15, Try.ntmps15
    go_wp2_with fail
    refine (useOfD_any a n c w h hc (by omega)).mono ?_
    rintro e w1 ⟨p, v0, v1, ta, tb, rfl, ⟨at', ab, ct, cb, rfl, rfl, hT, hB, ht, hcn⟩, hk1, hk2, hk3, hk4, hg1⟩
    have hlb := count_length p.body
    have hQ := PrIn.new (ct := ct) (cb := cb) hT hB
    have hgA := hg1.alloc (.cells #[.slice at' p.types.length ct, .slice ab p.body.length cb] 26)
    clear hT hB hg1 h
    go_wp2_with fail
    obtain ⟨wA, hwA⟩ : ∃ wA : World, wA = w1.alloc (.cells #[.slice at' p.types.length ct, .slice ab p.body.length cb] 26) := ⟨_, rfl⟩
    rw [← hwA] at hQ hgA ⊢
    clear hwA
    have HQ := Lib.hid hQ
    have HG := Lib.hid hgA
    have q0 := hQ.1
    have q1 := hQ.2.1
    clear hQ hgA
    refine (implUseOf_any p ta tb _ _ _ _ _ HQ.out.2.2.1 HQ.out.2.2.2 (by omega) (by omega)).mono ?_
    rintro e w2 ⟨rfl, hg⟩
    replace HQ := Lib.hid (HQ.out.gr hg)
    replace HG := Lib.hid (HG.out.trans0 hg)
    replace q0 := HQ.out.1
    replace q1 := HQ.out.2.1
    clear hg
    obtain ⟨u, hu⟩ : ∃ u, useOf p ta tb = u := ⟨_, rfl⟩
    have HU := Lib.hid hu
    rw [hu]
    clear hu
    go_wp2_with fail
    refine (implSetBy_any p ta _ _ _ _ _ HQ.out.2.2.1 HQ.out.2.2.2 (by omega) (by omega)).mono ?_
    rintro e w3 ⟨rfl, hg⟩
    replace HQ := Lib.hid (HQ.out.gr hg)
    replace HG := Lib.hid (HG.out.trans0 hg)
    replace q0 := HQ.out.1
    replace q1 := HQ.out.2.1
    clear hg
    obtain ⟨k, hu⟩ : ∃ u, setBy p ta = u := ⟨_, rfl⟩
    have HK := Lib.hid hu
    rw [hu]
    clear hu
    go_wp2_with fail
    refine (implPointsOf_any p  _ _ _ _ _ HQ.out.2.2.1 HQ.out.2.2.2 (by omega) (by omega)).mono ?_
    rintro e w4 ⟨M, a3, c3, hM, rfl, hP, hg⟩
    replace HQ := Lib.hid (HQ.out.gr hg)
    replace HG := Lib.hid (HG.out.trans0 hg)
    replace q0 := HQ.out.1
    replace q1 := HQ.out.2.1
    have HP := Lib.hid (hP.read)
    have HM := Lib.hid (hM)
    clear hM hP hg
    go_wp2_with fail
    have hMl : M.length ≤ 61 := by rw [HM.out]; exact ptsOf_le p
    refine (specUseOf_any p ta tb _ _ _ _ _ HQ.out.2.2.1 HQ.out.2.2.2 (by omega) (by omega)).mono ?_
    rintro e w5 ⟨rfl, hg⟩
    replace HQ := Lib.hid (HQ.out.gr hg)
    replace HG := Lib.hid (HG.out.trans0 hg)
    replace q0 := HQ.out.1
    replace q1 := HQ.out.2.1
    replace HP := Lib.hid (HP.out.gr hg)
    clear hg
    rw [HU.out]
    go_wp2_with fail
    refine (specSetBy_any p ta _ _ _ _ _ HQ.out.2.2.1 HQ.out.2.2.2 (by omega) (by omega)).mono ?_
    rintro e w6 ⟨rfl, hg⟩
    replace HQ := Lib.hid (HQ.out.gr hg)
    replace HG := Lib.hid (HG.out.trans0 hg)
    replace q0 := HQ.out.1
    replace q1 := HQ.out.2.1
    replace HP := Lib.hid (HP.out.gr hg)
    clear hg
    rw [HK.out]
    by_cases hin : 0 ≤ ta ∧ ta < M.length
    · obtain ⟨t, rfl⟩ : ∃ t : Nat, ta = t := ⟨ta.toNat, by omega⟩
      have ht9 : t < M.length := by omega
      clear hin
      obtain ⟨b1, o1, rfl, hpt⟩ := HP.out t ht9
      obtain ⟨q, hq⟩ : ∃ q, M[t] = q := ⟨_, rfl⟩
      rw [hq] at hpt
      have L1 := Lib.hid (useOf_vars (v := tb) HM.out ht9 hq)
      have L2 := Lib.hid (setBy_var HM.out ht9 hq)
      replace L1 := Lib.hid (by have h := L1.out; rw [HU.out] at h; exact h)
      replace L2 := Lib.hid (by have h := L2.out; rw [HK.out] at h; exact h)
      clear hq
      obtain ⟨an, cn, c0, c1, c2, c3, c4, -, -⟩ := hpt
      by_cases h0 : u = 0
      · subst h0
        by_cases g : k = -1
        · have g1 : k = -1 := g
          subst g1
          go_wp2_with fail
          go_ret
          exact ⟨rfl, HG.out.trans0 ((Gr.refl _ _).alloc _)⟩
        · have g1 : k = q.x := by rcases L2.out with h | h; exact absurd h g; exact h
          have g2 : (k == (-1 : Int)) = false := beq_eq_false_iff_ne.2 g
          have g3 : (k == q.x) = true := by rw [g1]; simp
          clear g g1
          go_wp2_with fail
          go_ret
          exact ⟨rfl, HG.out.trans0 ((Gr.refl _ _).alloc _)⟩
      · have h1 : (u == 0) = false := beq_eq_false_iff_ne.2 h0
        have L3 := Lib.hid h0
        clear h0
        by_cases h2 : tb = q.x
        · have h3 : (tb == q.x) = true := by rw [h2]; simp
          clear h2
          by_cases g : k = -1
          · have g1 : k = -1 := g
            subst g1
            go_wp2_with fail
            go_ret
            exact ⟨rfl, HG.out.trans0 ((Gr.refl _ _).alloc _)⟩
          · have g1 : k = q.x := by rcases L2.out with h | h; exact absurd h g; exact h
            have g2 : (k == (-1 : Int)) = false := beq_eq_false_iff_ne.2 g
            have g3 : (k == q.x) = true := by rw [g1]; simp
            clear g g1
            go_wp2_with fail
            go_ret
            exact ⟨rfl, HG.out.trans0 ((Gr.refl _ _).alloc _)⟩
        · have h3 : (tb == q.x) = false := beq_eq_false_iff_ne.2 h2
          have h4 : (tb == q.y) = true := by rcases L1.out with h | h | h; exact absurd h L3.out; exact absurd h h2; rw [h]; simp
          clear h2
          by_cases g : k = -1
          · have g1 : k = -1 := g
            subst g1
            go_wp2_with fail
            go_ret
            exact ⟨rfl, HG.out.trans0 ((Gr.refl _ _).alloc _)⟩
          · have g1 : k = q.x := by rcases L2.out with h | h; exact absurd h g; exact h
            have g2 : (k == (-1 : Int)) = false := beq_eq_false_iff_ne.2 g
            have g3 : (k == q.x) = true := by rw [g1]; simp
            clear g g1
            go_wp2_with fail
            go_ret
            exact ⟨rfl, HG.out.trans0 ((Gr.refl _ _).alloc _)⟩
    · have hcs : ta < 0 ∨ (M.length : Int) ≤ ta := by omega
      clear hin
      rcases hcs with hcs | hcs
      · skip
        go_wp2_with fail
        refine (specUseOf_any p ta tb _ _ _ _ _ HQ.out.2.2.1 HQ.out.2.2.2 (by omega) (by omega)).mono ?_
        rintro e w7 ⟨rfl, hg⟩
        replace HQ := Lib.hid (HQ.out.gr hg)
        replace HG := Lib.hid (HG.out.trans0 hg)
        replace q0 := HQ.out.1
        replace q1 := HQ.out.2.1
        replace HP := Lib.hid (HP.out.gr hg)
        clear hg
        rw [HU.out]
        go_wp2_with fail
        refine (specSetBy_any p ta _ _ _ _ _ HQ.out.2.2.1 HQ.out.2.2.2 (by omega) (by omega)).mono ?_
        rintro e w8 ⟨rfl, hg⟩
        replace HQ := Lib.hid (HQ.out.gr hg)
        replace HG := Lib.hid (HG.out.trans0 hg)
        replace q0 := HQ.out.1
        replace q1 := HQ.out.2.1
        replace HP := Lib.hid (HP.out.gr hg)
        clear hg
        rw [HK.out]
        go_wp2_with fail
        go_ret
        exact ⟨rfl, HG.out⟩
      · have hge : 0 ≤ ta := by omega
        go_wp2_with fail
        refine (specUseOf_any p ta tb _ _ _ _ _ HQ.out.2.2.1 HQ.out.2.2.2 (by omega) (by omega)).mono ?_
        rintro e w9 ⟨rfl, hg⟩
        replace HQ := Lib.hid (HQ.out.gr hg)
        replace HG := Lib.hid (HG.out.trans0 hg)
        replace q0 := HQ.out.1
        replace q1 := HQ.out.2.1
        replace HP := Lib.hid (HP.out.gr hg)
        clear hg
        rw [HU.out]
        go_wp2_with fail
        refine (specSetBy_any p ta _ _ _ _ _ HQ.out.2.2.1 HQ.out.2.2.2 (by omega) (by omega)).mono ?_
        rintro e w10 ⟨rfl, hg⟩
        replace HQ := Lib.hid (HQ.out.gr hg)
        replace HG := Lib.hid (HG.out.trans0 hg)
        replace q0 := HQ.out.1
        replace q1 := HQ.out.2.1
        replace HP := Lib.hid (HP.out.gr hg)
        clear hg
        rw [HK.out]
        go_wp2_with fail
        go_ret
        exact ⟨rfl, HG.out⟩
end Go.Proofs.Ytpnaeijkllmihaa

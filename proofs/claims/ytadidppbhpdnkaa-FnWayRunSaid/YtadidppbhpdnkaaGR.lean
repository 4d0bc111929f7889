/- The law FnWayRun: the walk of the law's own function. -/
import Derived.Test.YtadidppbhpdnkaaG3

import Derived.Test.YtadidppbhpdnkaaB19

import Derived.Test.YtadidppbhpdnkaaF5

namespace Go.Proofs.Ytadidppbhpdnkaa

open Go.RowKit

set_option maxRecDepth 100000 in
set_option maxHeartbeats 4000000 in
theorem fnWayRun_walk (a : Option Addr) (n c : Nat) (w : World) (h : BytesIn w a n) (hc : n ≤ c) (hm : n ≤ maxLen) :
    Calls Try.prog 13 #[.slice a n c] w fun e w' => e = .returned (.bool true) ∧ Gr w w' none := by
  unfold maxLen at hm
  by_cases hbig : 1048576 < n
  · go_enter Try.func13, Try.ntmps13
    go_wp2
    go_ret
    exact ⟨rfl, Gr.refl _ _⟩
  · go_enter Try.func13, Try.ntmps13
    go_wp2_with fail
    refine (runD_any a n c w h hc (by omega)).mono ?_
    rintro e w1 ⟨p, v0, v1, cs, ac, cc, tg, rfl, ⟨at', ab, ct, cb, rfl, rfl, hT, hB, ht, hcn⟩, hC, hcc, hc8, hk1, hk2, hg1⟩
    have hlb := count_length p.body
    have hQ := PrIn.new (ct := ct) (cb := cb) hT hB
    have hgA := hg1.alloc (.cells #[.slice at' p.types.length ct, .slice ab p.body.length cb] 26)
    have hCA : ∀ o, InAt (w1.alloc o) Any cs ac := fun o => (hC.mono (fun _ _ _ => trivial) (fun _ _ _ _ h => h)).gr0 ((Gr.refl _ _).alloc _)
    clear hC
    clear hT hB hg1 h
    go_wp2_with fail
    obtain ⟨wA, hwA⟩ : ∃ wA : World, wA = w1.alloc (.cells #[.slice at' p.types.length ct, .slice ab p.body.length cb] 26) := ⟨_, rfl⟩
    have HC := Lib.hid (show InAt wA Any cs ac from by rw [hwA]; exact hCA _)
    clear hCA
    rw [← hwA] at hQ hgA ⊢
    clear hwA
    have HQ := Lib.hid hQ
    have HG := Lib.hid hgA
    have q0 := hQ.1
    have q1 := hQ.2.1
    clear hQ hgA
    obtain ⟨R, hR⟩ : ∃ R, (runOf p cs tg).1 = R := ⟨_, rfl⟩
    obtain ⟨B, hB⟩ : ∃ B, (runOf p cs tg).2 = B := ⟨_, rfl⟩
    have HR := Lib.hid hR
    have HB := Lib.hid hB
    have hRl : (zs R).length ≤ 1001 := by rw [zs_length, ← hR]; exact runOf_len p cs tg
    clear hR hB
    refine (implRunPath_any p cs tg _ _ _ _ _ _ _ HQ.out.2.2.1 HQ.out.2.2.2 (by omega) (by omega) HC.out hcc (by omega)).mono ?_
    rw [HR.out, HB.out]
    rintro e w2 ⟨a2, c2, rfl, hI, -, -, hg, hcap⟩
    replace HQ := Lib.hid (HQ.out.gr hg)
    replace HG := Lib.hid (HG.out.trans0 hg)
    replace q0 := HQ.out.1
    replace q1 := HQ.out.2.1
    replace HC := Lib.hid (HC.out.gr0 hg)
    have HL := Lib.hid (hI)
    clear hI hg
    go_wp2_with fail
    refine (specRunPath_any p cs tg _ _ _ _ _ _ _ HQ.out.2.2.1 HQ.out.2.2.2 (by omega) (by omega) HC.out (by omega)).mono ?_
    rw [HR.out, HB.out]
    rintro e w3 ⟨a3, c3, rfl, hI, -, -, hg, -⟩
    replace HQ := Lib.hid (HQ.out.gr hg)
    replace HG := Lib.hid (HG.out.trans0 hg)
    replace q0 := HQ.out.1
    replace q1 := HQ.out.2.1
    replace HC := Lib.hid (HC.out.gr0 hg)
    replace HL := Lib.hid (HL.out.gr0 hg)
    have HS := Lib.hid (hI)
    clear hI hg
    go_wp2_with fail
    refine (bcInts_same (zs R) _ _ _ _ _ HL.out HS.out (by omega)).mono ?_
    rintro e w4 ⟨rfl, hg⟩
    replace HQ := Lib.hid (HQ.out.gr hg)
    replace HG := Lib.hid (HG.out.trans0 hg)
    replace q0 := HQ.out.1
    replace q1 := HQ.out.2.1
    replace HC := Lib.hid (HC.out.gr0 hg)
    replace HL := Lib.hid (HL.out.gr0 hg)
    replace HS := Lib.hid (HS.out.gr0 hg)
    clear hg
    by_cases hz : (zs R).length = 0
    · have hz' : (((zs R).length : Int) == 0) = true := by rw [hz]; rfl
      clear hz
      go_wp2_with fail
      refine (bcInts_same (zs R) _ _ _ _ _ HL.out HS.out (by omega)).mono ?_
      rintro e w5 ⟨rfl, hg⟩
      replace HQ := Lib.hid (HQ.out.gr hg)
      replace HG := Lib.hid (HG.out.trans0 hg)
      replace q0 := HQ.out.1
      replace q1 := HQ.out.2.1
      replace HC := Lib.hid (HC.out.gr0 hg)
      replace HL := Lib.hid (HL.out.gr0 hg)
      replace HS := Lib.hid (HS.out.gr0 hg)
      clear hg
      go_wp2_with fail
      go_ret
      exact ⟨by simp, HG.out⟩
    · have hz' : (((zs R).length : Int) == 0) = false := beq_eq_false_iff_ne.2 (by omega)
      have hpos : 0 < R.length := by rw [zs_length] at hz; omega
      obtain ⟨hw1, hw2, hw3⟩ := wayRun_law HR.out HB.out hpos
      obtain ⟨cw, hcw⟩ : ∃ cw, (wayOf p (zs R)).1 = cw := ⟨_, rfl⟩
      have hcl : cw.length ≤ 1001 := by have := wayOf_len p (zs R); rw [hcw] at this; omega
      have HCW := Lib.hid hcw
      rw [hcw] at hw2 hw3
      have HW1 := Lib.hid hw1
      have HW2 := Lib.hid hw2
      have HW3 := Lib.hid hw3
      clear hz hw1 hw2 hw3 hcw
      go_wp2_with fail
      refine (implWayChoices_any p (zs R) _ _ _ _ _ _ _ HQ.out.2.2.1 HQ.out.2.2.2 (by omega) (by omega) HL.out (by omega) hcap).mono ?_
      rw [HCW.out, HW1.out]
      rintro e w5 ⟨a6, c6, rfl, hI, -, -, hg, hcap6⟩
      replace HQ := Lib.hid (HQ.out.gr hg)
      replace HG := Lib.hid (HG.out.trans0 hg)
      replace q0 := HQ.out.1
      replace q1 := HQ.out.2.1
      replace HC := Lib.hid (HC.out.gr0 hg)
      replace HL := Lib.hid (HL.out.gr0 hg)
      replace HS := Lib.hid (HS.out.gr0 hg)
      have HW := Lib.hid (hI)
      clear hI hg
      go_wp2_with fail
      obtain ⟨R2, hR2⟩ : ∃ R2, (runOf p cw tg).1 = R2 := ⟨_, rfl⟩
      obtain ⟨B2, hB2⟩ : ∃ B2, (runOf p cw tg).2 = B2 := ⟨_, rfl⟩
      have HR2 := Lib.hid hR2
      have HB2 := Lib.hid hB2
      have hRl2 : (zs R2).length ≤ 1001 := by rw [zs_length, ← hR2]; exact runOf_len p cw tg
      clear hR2 hB2
      refine (implRunPath_any p cw tg _ _ _ _ _ _ _ HQ.out.2.2.1 HQ.out.2.2.2 (by omega) (by omega) HW.out hcap6 (by omega)).mono ?_
      rw [HR2.out, HB2.out]
      rintro e w6 ⟨a7, c7, rfl, hI, -, -, hg, hcap7⟩
      replace HQ := Lib.hid (HQ.out.gr hg)
      replace HG := Lib.hid (HG.out.trans0 hg)
      replace q0 := HQ.out.1
      replace q1 := HQ.out.2.1
      replace HC := Lib.hid (HC.out.gr0 hg)
      replace HL := Lib.hid (HL.out.gr0 hg)
      replace HS := Lib.hid (HS.out.gr0 hg)
      replace HW := Lib.hid (HW.out.gr0 hg)
      have HL2 := Lib.hid (hI)
      clear hI hg
      have hge : R.length ≤ R2.length := by
        have h1 := HW2.out
        rw [HR2.out] at h1
        have := congrArg List.length h1
        rw [List.length_take] at this
        omega
      have hge2 : (zs R).length ≤ (zs R2).length := by rw [zs_length, zs_length]; exact hge
      have HP2 := Lib.hid (show InAt w6 Any (zs R) a7 from by
        have h1 := HW2.out
        rw [HR2.out] at h1
        have h2 := (HL2.out).pre (zs R).length
        rw [zs_length R, ← zs_take, h1] at h2
        exact h2)
      cases B with
      | false =>
        have hd : decide (((zs R).length : Int) ≤ ((zs R2).length : Int)) = true := decide_eq_true (by omega)
        go_wp2_with fail
        refine (bcInts_same (zs R) _ _ _ _ _ HP2.out HL.out (by omega)).mono ?_
        rintro e w9 ⟨rfl, hg9⟩
        go_wp2_with fail
        go_ret
        exact ⟨by simp, HG.out.trans0 hg9⟩
      | true =>
        have hRR : R2 = R := by have := HW3.out rfl; rw [← HR2.out, this]
        have hBB : B2 = true := by have := HW3.out rfl; rw [← HB2.out, this]
        subst hBB
        have hll : (zs R2).length = (zs R).length := by rw [hRR]
        clear hRR hge hge2
        go_wp2_with fail
        refine (bcInts_same (zs R) _ _ _ _ _ HP2.out HL.out (by omega)).mono ?_
        rintro e w9 ⟨rfl, hg9⟩
        go_wp2_with fail
        go_ret
        exact ⟨by simp, HG.out.trans0 hg9⟩
end Go.Proofs.Ytadidppbhpdnkaa

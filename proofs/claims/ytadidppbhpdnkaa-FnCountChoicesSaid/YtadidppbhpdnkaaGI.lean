/- The law FnCountChoices: the walk of the law's own function. -/
import Derived.Test.YtadidppbhpdnkaaG3

import Derived.Test.YtadidppbhpdnkaaB20

import Derived.Test.YtadidppbhpdnkaaW4

import Derived.Test.YtadidppbhpdnkaaZ3

namespace Go.Proofs.Ytadidppbhpdnkaa

open Go.RowKit

set_option maxRecDepth 100000 in
set_option maxHeartbeats 4000000 in
theorem fnCountChoices_walk (a : Option Addr) (n c : Nat) (w : World) (h : BytesIn w a n) (hc : n ≤ c) (hm : n ≤ maxLen) :
    Calls Try.prog 14 #[.slice a n c] w fun e w' => e = .returned (.bool true) ∧ Gr w w' none := by
  unfold maxLen at hm
  by_cases hbig : 1048576 < n
  · go_enter Try.func14, Try.ntmps14
    go_wp2
    go_ret
    exact ⟨rfl, Gr.refl _ _⟩
  · go_enter Try.func14, Try.ntmps14
    go_wp2_with fail
    refine (cntD_any a n c w h hc (by omega)).mono ?_
    rintro e w1 ⟨p, v0, v1, rfl, ⟨at', ab, ct, cb, rfl, rfl, hT, hB, ht, hcn⟩, hg1⟩
    have hlb := count_length p.body
    have hQ := PrIn.new (ct := ct) (cb := cb) hT hB
    have hgA := hg1.alloc (.cells #[.slice at' p.types.length ct, .slice ab p.body.length cb] 26)
    clear hT hB hg1 h
    go_wp2_with fail
    obtain ⟨wA, hwA⟩ : ∃ wA : World, wA = w1.alloc (.cells #[.slice at' p.types.length ct, .slice ab p.body.length cb] 26) := ⟨_, rfl⟩
    rw [← hwA] at hQ hgA ⊢
    clear hwA
    have HQ := Lib.hid hQ
    have HG := Lib.hid hgA
    have q0 := hQ.1
    have q1 := hQ.2.1
    clear hQ hgA
    obtain ⟨N, hN⟩ : ∃ N, chs (ptsOf p) = N := ⟨_, rfl⟩
    have HN := Lib.hid hN
    have hNl : N ≤ 61 := by rw [← hN]; have := chs_le (ptsOf p); have := ptsOf_le p; omega
    clear hN
    refine (implCountChoices_any p  _ _ _ _ _ HQ.out.2.2.1 HQ.out.2.2.2 (by omega) (by omega)).mono ?_
    rw [HN.out]
    rintro e w2 ⟨rfl, hg⟩
    replace HQ := Lib.hid (HQ.out.gr hg)
    replace HG := Lib.hid (HG.out.trans0 hg)
    replace q0 := HQ.out.1
    replace q1 := HQ.out.2.1
    clear hg
    go_wp2_with fail
    refine (specCountChoices_any p  _ _ _ _ _ HQ.out.2.2.1 HQ.out.2.2.2 (by omega) (by omega)).mono ?_
    rw [HN.out]
    rintro e w3 ⟨rfl, hg⟩
    replace HQ := Lib.hid (HQ.out.gr hg)
    replace HG := Lib.hid (HG.out.trans0 hg)
    replace q0 := HQ.out.1
    replace q1 := HQ.out.2.1
    clear hg
    by_cases h0 : N = 0
    · subst h0
      go_wp2_with fail
      refine (valid_any p  _ _ _ _ _ HQ.out.2.2.1 HQ.out.2.2.2 (by omega) (by omega)).mono ?_
      rintro e w4 ⟨rfl, hg⟩
      replace HQ := Lib.hid (HQ.out.gr hg)
      replace HG := Lib.hid (HG.out.trans0 hg)
      replace q0 := HQ.out.1
      replace q1 := HQ.out.2.1
      clear hg
      cases hv : validP p with
      | false =>
        go_wp2_with fail
        refine (specCountChoices_any p  _ _ _ _ _ HQ.out.2.2.1 HQ.out.2.2.2 (by omega) (by omega)).mono ?_
        rw [HN.out]
        rintro e w5 ⟨rfl, hg⟩
        replace HQ := Lib.hid (HQ.out.gr hg)
        replace HG := Lib.hid (HG.out.trans0 hg)
        replace q0 := HQ.out.1
        replace q1 := HQ.out.2.1
        clear hg
        go_wp2_with fail
        go_ret
        exact ⟨rfl, HG.out⟩
      | true =>
        obtain ⟨hb, hl⟩ := runOf_straight hv HN.out
        have HB := Lib.hid hb
        have HL1 := Lib.hid hl
        clear hb hl
        go_wp2_with fail
        refine (implRunPath_any p [] 100 _ _ none _ _ 0 _ HQ.out.2.2.1 HQ.out.2.2.2 (by omega) (by omega) (by simp [InAt]) (by simp) (by simp)).mono ?_
        rw [HB.out]
        rintro e w5 ⟨a5, c5, rfl, -, -, -, hg, -⟩
        replace HQ := Lib.hid (HQ.out.gr hg)
        replace HG := Lib.hid (HG.out.trans0 hg)
        replace q0 := HQ.out.1
        replace q1 := HQ.out.2.1
        clear hg
        rw [zs_length, HL1.out]
        go_wp2_with fail
        refine (implPointsOf_any p  _ _ _ _ _ HQ.out.2.2.1 HQ.out.2.2.2 (by omega) (by omega)).mono ?_
        rintro e w6 ⟨M, a6, c6, hM, rfl, hP, hg⟩
        replace HQ := Lib.hid (HQ.out.gr hg)
        replace HG := Lib.hid (HG.out.trans0 hg)
        replace q0 := HQ.out.1
        replace q1 := HQ.out.2.1
        have HM := Lib.hid (hM)
        clear hM hP hg
        rw [← HM.out]
        go_wp2_with fail
        go_ret
        exact ⟨rfl, HG.out⟩
    · have hd : 0 < N := by omega
      go_wp2_with fail
      refine (specCountChoices_any p  _ _ _ _ _ HQ.out.2.2.1 HQ.out.2.2.2 (by omega) (by omega)).mono ?_
      rw [HN.out]
      rintro e w4 ⟨rfl, hg⟩
      replace HQ := Lib.hid (HQ.out.gr hg)
      replace HG := Lib.hid (HG.out.trans0 hg)
      replace q0 := HQ.out.1
      replace q1 := HQ.out.2.1
      clear hg
      go_wp2_with fail
      go_ret
      exact ⟨rfl, HG.out⟩
end Go.Proofs.Ytadidppbhpdnkaa

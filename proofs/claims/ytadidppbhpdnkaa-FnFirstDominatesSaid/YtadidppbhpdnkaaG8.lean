/- The law FnFirstDominates: the walk of the law's own function. -/
import Derived.Test.YtadidppbhpdnkaaG3

import Derived.Test.YtadidppbhpdnkaaB16

import Derived.Test.YtadidppbhpdnkaaY3

import Derived.Test.YtadidppbhpdnkaaR7

namespace Go.Proofs.Ytadidppbhpdnkaa

open Go.RowKit

set_option maxRecDepth 100000 in
set_option maxHeartbeats 4000000 in
theorem fnFirstDominates_walk (a : Option Addr) (n c : Nat) (w : World) (h : BytesIn w a n) (hc : n ≤ c) (hm : n ≤ maxLen) :
    Calls Try.prog 4 #[.slice a n c] w fun e w' => e = .returned (.bool true) ∧ Gr w w' none := by
  unfold maxLen at hm
  by_cases hbig : 1048576 < n
  · go_enter Try.func4, Try.ntmps4
    go_wp2
    go_ret
    exact ⟨rfl, Gr.refl _ _⟩
  · go_enter Try.func4, Try.ntmps4
    go_wp2_with fail
    refine (domsOfD_any a n c w h hc (by omega)).mono ?_
    rintro e w1 ⟨p, v0, v1, tg, rfl, ⟨at', ab, ct, cb, rfl, rfl, hT, hB, ht, hcn⟩, hk1, hk2, hg1⟩
    have hlb := count_length p.body
    have hQ := PrIn.new (ct := ct) (cb := cb) hT hB
    have hgA := hg1.alloc (.cells #[.slice at' p.types.length ct, .slice ab p.body.length cb] 26)
    clear hT hB hg1 h
    go_wp2_with fail
    obtain ⟨wA, hwA⟩ : ∃ wA : World, wA = w1.alloc (.cells #[.slice at' p.types.length ct, .slice ab p.body.length cb] 26) := ⟨_, rfl⟩
    rw [← hwA] at hQ hgA ⊢
    clear hwA
    have HQ := Lib.hid hQ
    have HG := Lib.hid hgA
    have q0 := hQ.1
    have q1 := hQ.2.1
    clear hQ hgA
    refine (implDominatorsOf_any p tg _ _ _ _ _ HQ.out.2.2.1 HQ.out.2.2.2 (by omega) (by omega)).mono ?_
    rintro e w2 ⟨a2, c2, rfl, hI, -, -, hg⟩
    replace HQ := Lib.hid (HQ.out.gr hg)
    replace HG := Lib.hid (HG.out.trans0 hg)
    replace q0 := HQ.out.1
    replace q1 := HQ.out.2.1
    have HL := Lib.hid (hI)
    clear hI hg
    go_wp2_with fail
    refine (implPointsOf_any p  _ _ _ _ _ HQ.out.2.2.1 HQ.out.2.2.2 (by omega) (by omega)).mono ?_
    rintro e w3 ⟨M, a3, c3, hM, rfl, hP, hg⟩
    replace HQ := Lib.hid (HQ.out.gr hg)
    replace HG := Lib.hid (HG.out.trans0 hg)
    replace q0 := HQ.out.1
    replace q1 := HQ.out.2.1
    replace HL := Lib.hid (HL.out.gr0 hg)
    have HM := Lib.hid (hM)
    clear hM hP hg
    go_wp2_with fail
    have hMl : M.length ≤ 61 := by rw [HM.out]; exact ptsOf_le p
    refine (specDominatorsOf_any p tg _ _ _ _ _ HQ.out.2.2.1 HQ.out.2.2.2 (by omega) (by omega)).mono ?_
    rintro e w4 ⟨a4, c4, rfl, hI, -, -, hg⟩
    replace HQ := Lib.hid (HQ.out.gr hg)
    replace HG := Lib.hid (HG.out.trans0 hg)
    replace q0 := HQ.out.1
    replace q1 := HQ.out.2.1
    replace HL := Lib.hid (HL.out.gr0 hg)
    have HS := Lib.hid (hI)
    clear hI hg
    go_wp2_with fail
    have hLl : (domsOf p tg).length ≤ 1048576 := domsOf_len p tg
    refine (bcInts_same (domsOf p tg) _ _ _ _ _ HL.out HS.out hLl).mono ?_
    rintro e w5 ⟨rfl, hg⟩
    replace HQ := Lib.hid (HQ.out.gr hg)
    replace HG := Lib.hid (HG.out.trans0 hg)
    replace q0 := HQ.out.1
    replace q1 := HQ.out.2.1
    replace HL := Lib.hid (HL.out.gr0 hg)
    replace HS := Lib.hid (HS.out.gr0 hg)
    clear hg
    by_cases hin : 0 ≤ tg ∧ tg < M.length
    · obtain ⟨t, rfl⟩ : ∃ t : Nat, tg = t := ⟨tg.toNat, by omega⟩
      have ht9 : t < M.length := by omega
      have HT9 := Lib.hid (show t < (ptsOf p).length from by rw [← HM.out]; exact ht9)
      clear hin
      go_wp2_with fail
      refine (implDominates_any p 0 t _ _ _ _ _ HQ.out.2.2.1 HQ.out.2.2.2 (by omega) (by omega)).mono ?_
      rintro e w6 ⟨rfl, hg⟩
      replace HQ := Lib.hid (HQ.out.gr hg)
      replace HG := Lib.hid (HG.out.trans0 hg)
      replace q0 := HQ.out.1
      replace q1 := HQ.out.2.1
      replace HL := Lib.hid (HL.out.gr0 hg)
      replace HS := Lib.hid (HS.out.gr0 hg)
      clear hg
      rw [dominates_first HT9.out]
      go_wp2_with fail
      refine (implAlwaysReaches_any p t ((M.length : Int) - 1) _ _ _ _ _ HQ.out.2.2.1 HQ.out.2.2.2 (by omega) (by omega)).mono ?_
      rintro e w7 ⟨rfl, hg⟩
      replace HQ := Lib.hid (HQ.out.gr hg)
      replace HG := Lib.hid (HG.out.trans0 hg)
      replace q0 := HQ.out.1
      replace q1 := HQ.out.2.1
      replace HL := Lib.hid (HL.out.gr0 hg)
      replace HS := Lib.hid (HS.out.gr0 hg)
      clear hg
      rw [show alwaysReaches p t ((M.length : Int) - 1) = true from by rw [HM.out]; exact always_last HT9.out]
      go_wp2_with fail
      refine (bcIn_any (domsOf p t) t _ _ _ HL.out hLl).mono ?_
      rintro e w8 ⟨rfl, hg⟩
      replace HQ := Lib.hid (HQ.out.gr hg)
      replace HG := Lib.hid (HG.out.trans0 hg)
      replace q0 := HQ.out.1
      replace q1 := HQ.out.2.1
      replace HL := Lib.hid (HL.out.gr0 hg)
      replace HS := Lib.hid (HS.out.gr0 hg)
      clear hg
      rw [decide_eq_true (doms_self HT9.out)]
      go_wp2_with fail
      refine (bcIn_any (domsOf p t) 0 _ _ _ HL.out hLl).mono ?_
      rintro e w9 ⟨rfl, hg⟩
      replace HQ := Lib.hid (HQ.out.gr hg)
      replace HG := Lib.hid (HG.out.trans0 hg)
      replace q0 := HQ.out.1
      replace q1 := HQ.out.2.1
      replace HL := Lib.hid (HL.out.gr0 hg)
      replace HS := Lib.hid (HS.out.gr0 hg)
      clear hg
      rw [decide_eq_true (doms_zero HT9.out)]
      go_wp2_with fail
      go_ret
      exact ⟨rfl, HG.out⟩
    · have hcs : tg < 0 ∨ (M.length : Int) ≤ tg := by omega
      clear hin
      rcases hcs with hcs | hcs
      · skip
        go_wp2_with fail
        refine (specDominatorsOf_any p tg _ _ _ _ _ HQ.out.2.2.1 HQ.out.2.2.2 (by omega) (by omega)).mono ?_
        rintro e w10 ⟨a6, c6, rfl, hI, -, -, hg⟩
        replace HQ := Lib.hid (HQ.out.gr hg)
        replace HG := Lib.hid (HG.out.trans0 hg)
        replace q0 := HQ.out.1
        replace q1 := HQ.out.2.1
        replace HL := Lib.hid (HL.out.gr0 hg)
        replace HS := Lib.hid (HS.out.gr0 hg)
        have HS2 := Lib.hid (hI)
        clear hI hg
        go_wp2_with fail
        refine (bcInts_same (domsOf p tg) _ _ _ _ _ HL.out HS2.out hLl).mono ?_
        rintro e w11 ⟨rfl, hg⟩
        replace HQ := Lib.hid (HQ.out.gr hg)
        replace HG := Lib.hid (HG.out.trans0 hg)
        replace q0 := HQ.out.1
        replace q1 := HQ.out.2.1
        replace HL := Lib.hid (HL.out.gr0 hg)
        replace HS := Lib.hid (HS.out.gr0 hg)
        replace HS2 := Lib.hid (HS2.out.gr0 hg)
        clear hg
        go_wp2_with fail
        go_ret
        exact ⟨rfl, HG.out⟩
      · have hge : 0 ≤ tg := by omega
        go_wp2_with fail
        refine (specDominatorsOf_any p tg _ _ _ _ _ HQ.out.2.2.1 HQ.out.2.2.2 (by omega) (by omega)).mono ?_
        rintro e w12 ⟨a6, c6, rfl, hI, -, -, hg⟩
        replace HQ := Lib.hid (HQ.out.gr hg)
        replace HG := Lib.hid (HG.out.trans0 hg)
        replace q0 := HQ.out.1
        replace q1 := HQ.out.2.1
        replace HL := Lib.hid (HL.out.gr0 hg)
        replace HS := Lib.hid (HS.out.gr0 hg)
        have HS2 := Lib.hid (hI)
        clear hI hg
        go_wp2_with fail
        refine (bcInts_same (domsOf p tg) _ _ _ _ _ HL.out HS2.out hLl).mono ?_
        rintro e w13 ⟨rfl, hg⟩
        replace HQ := Lib.hid (HQ.out.gr hg)
        replace HG := Lib.hid (HG.out.trans0 hg)
        replace q0 := HQ.out.1
        replace q1 := HQ.out.2.1
        replace HL := Lib.hid (HL.out.gr0 hg)
        replace HS := Lib.hid (HS.out.gr0 hg)
        replace HS2 := Lib.hid (HS2.out.gr0 hg)
        clear hg
        go_wp2_with fail
        go_ret
        exact ⟨rfl, HG.out⟩
end Go.Proofs.Ytadidppbhpdnkaa

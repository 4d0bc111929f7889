/- The law FnReachesThree: the walk of the law's own function. -/
import Derived.Test.YtadidppbhpdnkaaG3

import Derived.Test.YtadidppbhpdnkaaB17

import Derived.Test.YtadidppbhpdnkaaY3

import Derived.Test.YtadidppbhpdnkaaR7

namespace Go.Proofs.Ytadidppbhpdnkaa

open Go.RowKit

set_option maxRecDepth 100000 in
set_option maxHeartbeats 4000000 in
theorem fnReachesThree_walk (a : Option Addr) (n c : Nat) (w : World) (h : BytesIn w a n) (hc : n ≤ c) (hm : n ≤ maxLen) :
    Calls Try.prog 5 #[.slice a n c] w fun e w' => e = .returned (.bool true) ∧ Gr w w' none := by
  unfold maxLen at hm
  by_cases hbig : 1048576 < n
  · go_enter Try.func5, Try.ntmps5
    go_wp2
    go_ret
    exact ⟨rfl, Gr.refl _ _⟩
  · go_enter Try.func5, Try.ntmps5
    go_wp2_with fail
    refine (alwD_any a n c w h hc (by omega)).mono ?_
    rintro e w1 ⟨p, v0, v1, ta, tb, rfl, ⟨at', ab, ct, cb, rfl, rfl, hT, hB, ht, hcn⟩, hk1, hk2, hk3, hk4, hg1⟩
    have hlb := count_length p.body
    have hQ := PrIn.new (ct := ct) (cb := cb) hT hB
    have hgA := hg1.alloc (.cells #[.slice at' p.types.length ct, .slice ab p.body.length cb] 26)
    clear hT hB hg1 h
    go_wp2_with fail
    obtain ⟨wA, hwA⟩ : ∃ wA : World, wA = w1.alloc (.cells #[.slice at' p.types.length ct, .slice ab p.body.length cb] 26) := ⟨_, rfl⟩
    rw [← hwA] at hQ hgA ⊢
    clear hwA
    have HQ := Lib.hid hQ
    have HG := Lib.hid hgA
    have q0 := hQ.1
    have q1 := hQ.2.1
    clear hQ hgA
    refine (implAlwaysReaches_any p ta tb _ _ _ _ _ HQ.out.2.2.1 HQ.out.2.2.2 (by omega) (by omega)).mono ?_
    rintro e w2 ⟨rfl, hg⟩
    replace HQ := Lib.hid (HQ.out.gr hg)
    replace HG := Lib.hid (HG.out.trans0 hg)
    replace q0 := HQ.out.1
    replace q1 := HQ.out.2.1
    clear hg
    go_wp2_with fail
    refine (specAlwaysReaches_any p ta tb _ _ _ _ _ HQ.out.2.2.1 HQ.out.2.2.2 (by omega) (by omega)).mono ?_
    rintro e w3 ⟨rfl, hg⟩
    replace HQ := Lib.hid (HQ.out.gr hg)
    replace HG := Lib.hid (HG.out.trans0 hg)
    replace q0 := HQ.out.1
    replace q1 := HQ.out.2.1
    clear hg
    obtain ⟨D, hD⟩ : ∃ D, alwaysReaches p ta tb = D := ⟨_, rfl⟩
    have HD := Lib.hid hD
    rw [hD]
    clear hD
    cases D
    · go_wp2_with fail
      refine (specAlwaysReaches_any p ta tb _ _ _ _ _ HQ.out.2.2.1 HQ.out.2.2.2 (by omega) (by omega)).mono ?_
      rintro e w4 ⟨rfl, hg⟩
      replace HQ := Lib.hid (HQ.out.gr hg)
      replace HG := Lib.hid (HG.out.trans0 hg)
      replace q0 := HQ.out.1
      replace q1 := HQ.out.2.1
      clear hg
      rw [HD.out]
      go_wp2_with fail
      go_ret
      exact ⟨rfl, HG.out⟩
    · go_wp2_with fail
      refine (implPointsOf_any p  _ _ _ _ _ HQ.out.2.2.1 HQ.out.2.2.2 (by omega) (by omega)).mono ?_
      rintro e w5 ⟨M, a3, c3, hM, rfl, hP, hg⟩
      replace HQ := Lib.hid (HQ.out.gr hg)
      replace HG := Lib.hid (HG.out.trans0 hg)
      replace q0 := HQ.out.1
      replace q1 := HQ.out.2.1
      have HM := Lib.hid (hM)
      clear hM hP hg
      have hMl : M.length ≤ 61 := by rw [HM.out]; exact ptsOf_le p
      go_wp2_with fail
      go_loopw [8] (fun i wr => ∃ k : Nat, k ≤ M.length ∧ i = .int .i64 k ∧ Gr w5 wr none) (fun i _ => M.length - (intOf i).toNat)
      case atStart => exact ⟨0, Nat.zero_le _, rfl, Gr.refl _ _⟩
      case round =>
        obtain ⟨k, hk, rfl, hg⟩ := hrel
        have HGk := Lib.hid hg
        by_cases hlt : k < M.length
        · have r0 := hg.cell q0 (by simp)
          have r1 := hg.cell q1 (by simp)
          clear hg
          go_wp2_with fail
          refine (implAlwaysReaches_any p tb k _ _ _ _ _ (HQ.out.2.2.1.gr0 HGk.out) (HQ.out.2.2.2.gr0 HGk.out) (by omega) (by omega)).mono ?_
          rintro e w8 ⟨rfl, hg8⟩
          have HG8 := Lib.hid (HGk.out.trans0 hg8)
          have s0 := hg8.cell r0 (by simp)
          have s1 := hg8.cell r1 (by simp)
          clear hg8 r0 r1
          obtain ⟨E, hE⟩ : ∃ E, alwaysReaches p tb k = E := ⟨_, rfl⟩
          have HE := Lib.hid hE
          rw [hE]
          clear hE
          cases E
          · go_wp2_with fail
            go_roundw
            case rel => exact ⟨k + 1, by omega, by go_num, HG8.out⟩
            case measure => simp [intOf]; omega
          · go_wp2_with fail
            refine (implAlwaysReaches_any p ta k _ _ _ _ _ (HQ.out.2.2.1.gr0 HG8.out) (HQ.out.2.2.2.gr0 HG8.out) (by omega) (by omega)).mono ?_
            rintro e w9 ⟨rfl, hg9⟩
            rw [alws_trans HD.out HE.out]
            have HG9 := Lib.hid (HG8.out.trans0 hg9)
            clear hg9
            go_wp2_with fail
            go_roundw
            case rel => exact ⟨k + 1, by omega, by go_num, HG9.out⟩
            case measure => simp [intOf]; omega
        · go_wp2
          go_ret
          exact ⟨rfl, HG.out.trans0 hg⟩
end Go.Proofs.Ytadidppbhpdnkaa

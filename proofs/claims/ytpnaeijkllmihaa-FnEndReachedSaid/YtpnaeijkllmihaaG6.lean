/- The law FnEndReached: the walk of the law's own function. -/
import Derived.Test.YtpnaeijkllmihaaG3

import Derived.Test.YtpnaeijkllmihaaB16

import Derived.Test.YtpnaeijkllmihaaY3

namespace Go.Proofs.Ytpnaeijkllmihaa

open Go.RowKit

set_option maxRecDepth 100000 in
set_option maxHeartbeats 4000000 in
theorem fnEndReached_walk (a : Option Addr) (n c : Nat) (w : World) (h : BytesIn w a n) (hc : n ≤ c) (hm : n ≤ maxLen) :
    Calls Try.prog 12 #[.slice a n c] w fun e w' => e = .returned (.bool true) ∧ Gr w w' none := by
  unfold maxLen at hm
  by_cases hbig : 1048576 < n
  · go_enter Try.func12, Try.ntmps12
    go_wp2
    go_ret
    exact ⟨rfl, Gr.refl _ _⟩
  · go_enter Try.func12, Try.ntmps12
    go_wp2_with fail
    refine (ptsOfD_any a n c w h hc (by omega)).mono ?_
    rintro e w1 ⟨p, v0, v1, rfl, ⟨at', ab, ct, cb, rfl, rfl, hT, hB, ht, hcn⟩, hg1⟩
    have hlb := count_length p.body
    have hQ := PrIn.new (ct := ct) (cb := cb) hT hB
    have hgA := hg1.alloc (.cells #[.slice at' p.types.length ct, .slice ab p.body.length cb] 26)
    clear hT hB hg1 h
    go_wp2_with fail
    obtain ⟨wA, hwA⟩ : ∃ wA : World, wA = w1.alloc (.cells #[.slice at' p.types.length ct, .slice ab p.body.length cb] 26) := ⟨_, rfl⟩
    rw [← hwA] at hQ hgA ⊢
    clear hwA
    have HQ := Lib.hid hQ
    have HG := Lib.hid hgA
    have q0 := hQ.1
    have q1 := hQ.2.1
    clear hQ hgA
    refine (implPointsOf_any p  _ _ _ _ _ HQ.out.2.2.1 HQ.out.2.2.2 (by omega) (by omega)).mono ?_
    rintro e w2 ⟨M, a3, c3, hM, rfl, hP, hg⟩
    replace HQ := Lib.hid (HQ.out.gr hg)
    replace HG := Lib.hid (HG.out.trans0 hg)
    replace q0 := HQ.out.1
    replace q1 := HQ.out.2.1
    have HM := Lib.hid (hM)
    clear hM hP hg
    go_wp2_with fail
    have hMl : M.length ≤ 61 := by rw [HM.out]; exact ptsOf_le p
    refine (specPointsOf_any p  _ _ _ _ _ HQ.out.2.2.1 HQ.out.2.2.2 (by omega) (by omega)).mono ?_
    rintro e w3 ⟨M2, a4, c4, hM2, rfl, hP2, hg⟩
    replace HQ := Lib.hid (HQ.out.gr hg)
    replace HG := Lib.hid (HG.out.trans0 hg)
    replace q0 := HQ.out.1
    replace q1 := HQ.out.2.1
    clear hP2 hg
    obtain rfl : M = M2 := by rw [hM2, HM.out]
    clear hM2
    by_cases h0 : M.length = 0
    · have HZ := Lib.hid h0
      have h0' : ((M.length : Int) == 0) = true := by rw [h0]; rfl
      clear h0
      go_wp2_with fail
      refine (specPointsOf_any p  _ _ _ _ _ HQ.out.2.2.1 HQ.out.2.2.2 (by omega) (by omega)).mono ?_
      rintro e w4 ⟨M2, a4, c4, hM2, rfl, hP2, hg⟩
      replace HQ := Lib.hid (HQ.out.gr hg)
      replace HG := Lib.hid (HG.out.trans0 hg)
      replace q0 := HQ.out.1
      replace q1 := HQ.out.2.1
      clear hP2 hg
      obtain rfl : M = M2 := by rw [hM2, HM.out]
      clear hM2
      go_wp2_with fail
      go_ret
      exact ⟨rfl, HG.out⟩
    · have h0' : ((M.length : Int) == 0) = false := beq_eq_false_iff_ne.2 (by omega)
      go_wp2_with fail
      refine (implPathsTo_any p ((M.length : Int) - 1) _ _ _ _ _ HQ.out.2.2.1 HQ.out.2.2.2 (by omega) (by omega)).mono ?_
      rintro e w5 ⟨a5, c5, rfl, hI, -, -, hg⟩
      replace HQ := Lib.hid (HQ.out.gr hg)
      replace HG := Lib.hid (HG.out.trans0 hg)
      replace q0 := HQ.out.1
      replace q1 := HQ.out.2.1
      have HT := Lib.hid (hI)
      clear hI hg
      go_wp2_with fail
      refine (implPathsFrom_any p 0 _ _ _ _ _ HQ.out.2.2.1 HQ.out.2.2.2 (by omega) (by omega)).mono ?_
      rintro e w6 ⟨a6, c6, rfl, hI, -, -, hg⟩
      replace HQ := Lib.hid (HQ.out.gr hg)
      replace HG := Lib.hid (HG.out.trans0 hg)
      replace q0 := HQ.out.1
      replace q1 := HQ.out.2.1
      replace HT := Lib.hid (HT.out.gr0 hg)
      have HF := Lib.hid (hI)
      clear hI hg
      have hl1 : (pathsTo p ((M.length : Int) - 1)).length ≤ 1048576 := pathsTo_len p _
      have hl2 : (pathsFrom p 0).length ≤ 1048576 := pathsFrom_len p 0
      go_wp2_with fail
      go_loopw [7] (fun i wr => ∃ k : Nat, k ≤ M.length ∧ i = .int .i64 k ∧ Gr w6 wr none) (fun i _ => M.length - (intOf i).toNat)
      case atStart => exact ⟨0, Nat.zero_le _, rfl, Gr.refl _ _⟩
      case round =>
        obtain ⟨k, hk, rfl, hg⟩ := hrel
        have HGk := Lib.hid hg
        clear hg
        by_cases hlt : k < M.length
        · by_cases hl : (k : Int) < (M.length : Int) - 1
          · have HA := Lib.hid (decide_eq_true (show (k : Int) ∈ pathsTo p ((M.length : Int) - 1) from by rw [HM.out]; exact pathsTo_last (by rw [← HM.out]; omega)))
            go_wp2_with fail
            refine (bcIn_any (pathsTo p ((M.length : Int) - 1)) k _ _ _ (HT.out.gr0 HGk.out) hl1).mono ?_
            rintro e w8 ⟨rfl, hg8⟩
            rw [HA.out]
            have HG8 := Lib.hid (HGk.out.trans0 hg8)
            clear hg8 HA
            by_cases hp : 0 < k
            · have HB := Lib.hid (decide_eq_true (show (k : Int) ∈ pathsFrom p 0 from pathsFrom_first (by rw [← HM.out]; exact hlt) hp))
              go_wp2_with fail
              refine (bcIn_any (pathsFrom p 0) k _ _ _ (HF.out.gr0 HG8.out) hl2).mono ?_
              rintro e w9 ⟨rfl, hg9⟩
              rw [HB.out]
              have HG9 := Lib.hid (HG8.out.trans0 hg9)
              clear hg9 HB
              go_wp2_with fail
              go_roundw
              case rel => exact ⟨k + 1, by omega, by go_num, HG9.out⟩
              case measure => simp [intOf]; omega
            · go_wp2_with fail
              go_roundw
              case rel => exact ⟨k + 1, by omega, by go_num, HG8.out⟩
              case measure => simp [intOf]; omega
          · by_cases hp : 0 < k
            · have HB := Lib.hid (decide_eq_true (show (k : Int) ∈ pathsFrom p 0 from pathsFrom_first (by rw [← HM.out]; exact hlt) hp))
              go_wp2_with fail
              refine (bcIn_any (pathsFrom p 0) k _ _ _ (HF.out.gr0 HGk.out) hl2).mono ?_
              rintro e w9 ⟨rfl, hg9⟩
              rw [HB.out]
              have HG9 := Lib.hid (HGk.out.trans0 hg9)
              clear hg9 HB
              go_wp2_with fail
              go_roundw
              case rel => exact ⟨k + 1, by omega, by go_num, HG9.out⟩
              case measure => simp [intOf]; omega
            · go_wp2_with fail
              go_roundw
              case rel => exact ⟨k + 1, by omega, by go_num, HGk.out⟩
              case measure => simp [intOf]; omega
        · go_wp2
          go_ret
          exact ⟨rfl, HG.out.trans0 HGk.out⟩
end Go.Proofs.Ytpnaeijkllmihaa

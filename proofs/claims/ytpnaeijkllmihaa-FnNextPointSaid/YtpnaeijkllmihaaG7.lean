/- The law FnNextPoint: the walk of the law's own function. -/
import Derived.Test.YtpnaeijkllmihaaG3

import Derived.Test.YtpnaeijkllmihaaB16

import Derived.Test.YtpnaeijkllmihaaY3

namespace Go.Proofs.Ytpnaeijkllmihaa

open Go.RowKit

set_option maxRecDepth 100000 in
set_option maxHeartbeats 4000000 in
theorem fnNextPoint_walk (a : Option Addr) (n c : Nat) (w : World) (h : BytesIn w a n) (hc : n ≤ c) (hm : n ≤ maxLen) :
    Calls Try.prog 4 #[.slice a n c] w fun e w' => e = .returned (.bool true) ∧ Gr w w' none := by
  unfold maxLen at hm
  by_cases hbig : 1048576 < n
  · go_enter Try.func4, Try.ntmps4
    go_wp2
    go_ret
    exact ⟨rfl, Gr.refl _ _⟩
  · go_enter Try.func4, Try.ntmps4
    go_wp2_with fail
    refine (ptsOfD_any a n c w h hc (by omega)).mono ?_
    rintro e w1 ⟨p, v0, v1, rfl, ⟨at', ab, ct, cb, rfl, rfl, hT, hB, ht, hcn⟩, hg1⟩
    have hlb := count_length p.body
    have hQ := PrIn.new (ct := ct) (cb := cb) hT hB
    have hgA := hg1.alloc (.cells #[.slice at' p.types.length ct, .slice ab p.body.length cb] 26)
    clear hT hB hg1 h
    go_wp2_with fail
    obtain ⟨wA, hwA⟩ : ∃ wA : World, wA = w1.alloc (.cells #[.slice at' p.types.length ct, .slice ab p.body.length cb] 26) := ⟨_, rfl⟩
    rw [← hwA] at hQ hgA ⊢
    clear hwA
    have HQ := Lib.hid hQ
    have HG := Lib.hid hgA
    have q0 := hQ.1
    have q1 := hQ.2.1
    clear hQ hgA
    refine (implPointsOf_any p  _ _ _ _ _ HQ.out.2.2.1 HQ.out.2.2.2 (by omega) (by omega)).mono ?_
    rintro e w2 ⟨M, a3, c3, hM, rfl, hP, hg⟩
    replace HQ := Lib.hid (HQ.out.gr hg)
    replace HG := Lib.hid (HG.out.trans0 hg)
    replace q0 := HQ.out.1
    replace q1 := HQ.out.2.1
    have HP := Lib.hid (hP.read)
    have HM := Lib.hid (hM)
    clear hM hP hg
    go_wp2_with fail
    have hMl : M.length ≤ 61 := by rw [HM.out]; exact ptsOf_le p
    refine (specPointsOf_any p  _ _ _ _ _ HQ.out.2.2.1 HQ.out.2.2.2 (by omega) (by omega)).mono ?_
    rintro e w3 ⟨M2, a4, c4, hM2, rfl, hP2, hg⟩
    replace HQ := Lib.hid (HQ.out.gr hg)
    replace HG := Lib.hid (HG.out.trans0 hg)
    replace q0 := HQ.out.1
    replace q1 := HQ.out.2.1
    replace HP := Lib.hid (HP.out.gr hg)
    have HP2 := Lib.hid (hP2.read)
    clear hP2 hg
    obtain rfl : M = M2 := by rw [hM2, HM.out]
    clear hM2
    go_wp2_with fail
    refine (bcPoints_same M _ _ _ _ _ HP.out HP2.out (by omega) (ptsOf_small HM.out)).mono ?_
    rintro e w4 ⟨rfl, hg⟩
    replace HQ := Lib.hid (HQ.out.gr hg)
    replace HG := Lib.hid (HG.out.trans0 hg)
    replace q0 := HQ.out.1
    replace q1 := HQ.out.2.1
    replace HP := Lib.hid (HP.out.gr hg)
    replace HP2 := Lib.hid (HP2.out.gr hg)
    clear hg
    go_wp2_with fail
    go_loopw [5] (fun i wr => ∃ k : Nat, k ≤ M.length ∧ i = .int .i64 k ∧ Gr w4 wr none) (fun i _ => M.length - (intOf i).toNat)
    case atStart => exact ⟨0, Nat.zero_le _, rfl, Gr.refl _ _⟩
    case round =>
      obtain ⟨k, hk, rfl, hg⟩ := hrel
      have HGk := Lib.hid hg
      by_cases hlt : k < M.length
      · obtain ⟨b1, o1, rfl, hpt⟩ := (HP.out.gr hg) k hlt
        clear hg
        obtain ⟨q, hq⟩ : ∃ q, M[k] = q := ⟨_, rfl⟩
        rw [hq] at hpt
        have hM0 : ptsOf p = pts p := ptsOf_some (by rw [← HM.out]; omega)
        obtain ⟨hA, hB⟩ := nextPoint_law p (k := k) (q := q) (by rw [← hM0, ← HM.out, List.getElem?_eq_getElem hlt, hq])
        have HNL := Lib.hid (show q.next.length ≤ 1048576 from ptsOf_small HM.out q (hq ▸ List.getElem_mem hlt))
        clear hq hM0
        obtain ⟨an, cn, c0, -, -, -, c4, cI, hcn⟩ := hpt
        have HCI := Lib.hid cI
        clear cI
        by_cases hop : q.op < 9
        · have hnx := hA hop
          clear hA hB
          obtain ⟨b2, o2, rfl, -, e1⟩ := HCI.out.at (i := 0) (by rw [hnx]; simp [zs])
          have e2 : wr.cell? ⟨b2, o2, none⟩ = some (.int .i64 ((k : Int) + 1)) := by simpa [hnx, zs] using e1
          rw [show q.next.length = 1 from by rw [hnx]; rfl] at c4 hcn
          clear HCI hnx e1
          go_wp2_with fail
          go_roundw
          case rel => exact ⟨k + 1, by omega, by go_num, HGk.out⟩
          case measure => simp [intOf]; omega
        · by_cases hl2 : q.next.length = 2
          · obtain ⟨e, hnx⟩ := hB hl2
            clear hA hB
            obtain ⟨b2, o2, rfl, -, e1⟩ := HCI.out.at (i := 0) (by rw [hnx]; simp [zs])
            have e2 : wr.cell? ⟨b2, o2, none⟩ = some (.int .i64 ((k : Int) + 1)) := by simpa [hnx, zs] using e1
            rw [hl2] at c4 hcn
            clear HCI hnx e1 hl2
            go_wp2_with fail
            go_roundw
            case rel => exact ⟨k + 1, by omega, by go_num, HGk.out⟩
            case measure => simp [intOf]; omega
          · clear hA hB HCI
            have hnl := HNL.out
            have hl2' : ((q.next.length : Int) == 2) = false := beq_eq_false_iff_ne.2 (by omega)
            go_wp2_with fail
            go_roundw
            case rel => exact ⟨k + 1, by omega, by go_num, HGk.out⟩
            case measure => simp [intOf]; omega
      · go_wp2
        go_ret
        exact ⟨rfl, HG.out.trans0 hg⟩
end Go.Proofs.Ytpnaeijkllmihaa

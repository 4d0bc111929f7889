/- The law FnLoopBounds: the walk of the law's own function. -/
import Derived.Test.YtpnaeijkllmihaaG3

import Derived.Test.YtpnaeijkllmihaaB16

import Derived.Test.YtpnaeijkllmihaaY4

namespace Go.Proofs.Ytpnaeijkllmihaa

open Go.RowKit

set_option maxRecDepth 100000 in
set_option maxHeartbeats 4000000 in
theorem fnLoopBounds_walk (a : Option Addr) (n c : Nat) (w : World) (h : BytesIn w a n) (hc : n ≤ c) (hm : n ≤ maxLen) :
    Calls Try.prog 6 #[.slice a n c] w fun e w' => e = .returned (.bool true) ∧ Gr w w' none := by
  unfold maxLen at hm
  by_cases hbig : 1048576 < n
  · go_enter Try.func6, Try.ntmps6
    go_wp2
    go_ret
    exact ⟨rfl, Gr.refl _ _⟩
  · go_enter Try.func6, Try.ntmps6
    go_wp2_with fail
    refine (loopOfD_any a n c w h hc (by omega)).mono ?_
    rintro e w1 ⟨p, v0, v1, tg, rfl, ⟨at', ab, ct, cb, rfl, rfl, hT, hB, ht, hcn⟩, hk1, hk2, hg1⟩
    have hlb := count_length p.body
    have hQ := PrIn.new (ct := ct) (cb := cb) hT hB
    have hgA := hg1.alloc (.cells #[.slice at' p.types.length ct, .slice ab p.body.length cb] 26)
    clear hT hB hg1 h
    go_wp2_with fail
    obtain ⟨wA, hwA⟩ : ∃ wA : World, wA = w1.alloc (.cells #[.slice at' p.types.length ct, .slice ab p.body.length cb] 26) := ⟨_, rfl⟩
    rw [← hwA] at hQ hgA ⊢
    clear hwA
    have HQ := Lib.hid hQ
    have HG := Lib.hid hgA
    have q0 := hQ.1
    have q1 := hQ.2.1
    clear hQ hgA
    refine (implLoopOf_any p tg _ _ _ _ _ HQ.out.2.2.1 HQ.out.2.2.2 (by omega) (by omega)).mono ?_
    rintro e w2 ⟨a2, c2, rfl, hI, -, -, hg⟩
    replace HQ := Lib.hid (HQ.out.gr hg)
    replace HG := Lib.hid (HG.out.trans0 hg)
    replace q0 := HQ.out.1
    replace q1 := HQ.out.2.1
    have HL := Lib.hid (hI)
    clear hI hg
    have hLl : (loopOf p tg).length ≤ 1048576 := loopOf_len p tg
    go_wp2_with fail
    refine (implPointsOf_any p  _ _ _ _ _ HQ.out.2.2.1 HQ.out.2.2.2 (by omega) (by omega)).mono ?_
    rintro e w3 ⟨M, a3, c3, hM, rfl, hP, hg⟩
    replace HQ := Lib.hid (HQ.out.gr hg)
    replace HG := Lib.hid (HG.out.trans0 hg)
    replace q0 := HQ.out.1
    replace q1 := HQ.out.2.1
    replace HL := Lib.hid (HL.out.gr0 hg)
    have HP := Lib.hid (hP.read)
    have HM := Lib.hid (hM)
    clear hM hP hg
    have hMl : M.length ≤ 61 := by rw [HM.out]; exact ptsOf_le p
    go_wp2_with fail
    refine (specLoopOf_any p tg _ _ _ _ _ HQ.out.2.2.1 HQ.out.2.2.2 (by omega) (by omega)).mono ?_
    rintro e w4 ⟨a4, c4, rfl, hI, -, -, hg⟩
    replace HQ := Lib.hid (HQ.out.gr hg)
    replace HG := Lib.hid (HG.out.trans0 hg)
    replace q0 := HQ.out.1
    replace q1 := HQ.out.2.1
    replace HL := Lib.hid (HL.out.gr0 hg)
    replace HP := Lib.hid (HP.out.gr hg)
    have HS := Lib.hid (hI)
    clear hI hg
    go_wp2_with fail
    refine (bcInts_same (loopOf p tg) _ _ _ _ _ HL.out HS.out hLl).mono ?_
    rintro e w5 ⟨rfl, hg⟩
    replace HQ := Lib.hid (HQ.out.gr hg)
    replace HG := Lib.hid (HG.out.trans0 hg)
    replace q0 := HQ.out.1
    replace q1 := HQ.out.2.1
    replace HL := Lib.hid (HL.out.gr0 hg)
    replace HP := Lib.hid (HP.out.gr hg)
    replace HS := Lib.hid (HS.out.gr0 hg)
    clear hg
    by_cases hz : (loopOf p tg).length = 0
    · have hz' : (((loopOf p tg).length : Int) == 0) = true := by rw [hz]; rfl
      clear hz
      go_wp2_with fail
      refine (specLoopOf_any p tg _ _ _ _ _ HQ.out.2.2.1 HQ.out.2.2.2 (by omega) (by omega)).mono ?_
      rintro e w6 ⟨a6, c6, rfl, hI, -, -, hg⟩
      replace HQ := Lib.hid (HQ.out.gr hg)
      replace HG := Lib.hid (HG.out.trans0 hg)
      replace q0 := HQ.out.1
      replace q1 := HQ.out.2.1
      replace HL := Lib.hid (HL.out.gr0 hg)
      replace HP := Lib.hid (HP.out.gr hg)
      have HS := Lib.hid (hI)
      clear hI hg
      go_wp2_with fail
      refine (bcInts_same (loopOf p tg) _ _ _ _ _ HL.out HS.out hLl).mono ?_
      rintro e w7 ⟨rfl, hg⟩
      replace HQ := Lib.hid (HQ.out.gr hg)
      replace HG := Lib.hid (HG.out.trans0 hg)
      replace q0 := HQ.out.1
      replace q1 := HQ.out.2.1
      replace HL := Lib.hid (HL.out.gr0 hg)
      replace HP := Lib.hid (HP.out.gr hg)
      replace HS := Lib.hid (HS.out.gr0 hg)
      clear hg
      go_wp2_with fail
      go_ret
      exact ⟨rfl, HG.out⟩
    · have hz' : (((loopOf p tg).length : Int) == 0) = false := beq_eq_false_iff_ne.2 (by omega)
      obtain ⟨k, e, q, r, hk, he, hke, hL, hq, hr, ho, hqn, hrn⟩ := loop_law (p := p) (a := tg) HM.out (by omega)
      obtain ⟨n, hn⟩ : ∃ n, e + 1 - k = n + 1 := ⟨e - k, by omega⟩
      have hlen : (loopOf p tg).length = n + 1 := by rw [hL, upFrom_length, hn]
      have HI := Lib.hid (show ∀ i (h : i < (loopOf p tg).length), (loopOf p tg)[i] = (k : Int) + i from fun i h => by
        have h2 : i < (upFrom k (e + 1 - k)).length := by rw [← hL]; exact h
        have := upFrom_get h2
        rw [← this]
        congr 1)
      have HQ2 := Lib.hid hq
      have HR2 := Lib.hid hr
      have HQN := Lib.hid hqn
      have HRN := Lib.hid hrn
      have HO := Lib.hid ho
      have HKE := Lib.hid (show e = k + n by omega)
      clear hL hq hr hqn hrn ho hn hz
      go_wp2_with fail
      go_loopw [7] (fun i wr => ∃ m : Nat, 1 ≤ m ∧ m ≤ (loopOf p tg).length ∧ i = .int .i64 m ∧ Gr w5 wr none) (fun i _ => (loopOf p tg).length - (intOf i).toNat)
      case atStart => exact ⟨1, by omega, by omega, rfl, Gr.refl _ _⟩
      case round =>
        obtain ⟨m, hm1, hm, rfl, hg⟩ := hrel
        have HGm := Lib.hid hg
        by_cases hlt : m < (loopOf p tg).length
        · obtain ⟨b1, o1, rfl, -, e1⟩ := (HL.out.gr0 hg).at hlt
          obtain ⟨b2, o2, eb, -, e2⟩ := (HL.out.gr0 hg).at (i := m - 1) (by omega)
          cases eb
          rw [HI.out m hlt] at e1
          rw [HI.out (m - 1) (by omega)] at e2
          obtain ⟨y1, hy1⟩ : ∃ y1 : Int, (k : Int) + m = y1 := ⟨_, rfl⟩
          obtain ⟨y2, hy2⟩ : ∃ y2 : Int, (k : Int) + ((m - 1 : Nat) : Int) = y2 := ⟨_, rfl⟩
          rw [hy1] at e1
          rw [hy2] at e2
          have hw : IntKind.i64.wrap ((m : Int) - 1) = ((m - 1 : Nat) : Int) := by rw [IntWalk.i64_in _ (by omega)]; omega
          have hw2 : IntKind.i64.wrap (y2 + 1) = y1 := by rw [IntWalk.i64_in _ (by omega)]; omega
          clear hy1 hy2 hg
          go_upto_region 11 with fail
          go_quiet (fail)
          go_wp2_with fail
          go_roundw
          case rel => exact ⟨m + 1, by omega, by omega, by go_num, HGm.out.drewN _⟩
          case measure => simp [intOf]; omega
        · obtain rfl : m = (loopOf p tg).length := by omega
          obtain ⟨b1, o1, rfl, -, e1⟩ := (HL.out.gr0 hg).at (i := 0) (by omega)
          obtain ⟨b2, o2, eb, -, e2⟩ := (HL.out.gr0 hg).at (i := n) (by omega)
          cases eb
          rw [HI.out 0 (by omega)] at e1
          rw [HI.out n (by omega)] at e2
          replace e1 : wr.cell? ⟨b1, o1, none⟩ = some (.int .i64 (k : Int)) := by simpa using e1
          replace e2 : wr.cell? ⟨b1, o1 + n, none⟩ = some (.int .i64 (e : Int)) := by rw [e2, HKE.out]; simp
          obtain ⟨b3, o3, rfl, hp1⟩ := (HP.out.gr hg) k hk
          obtain ⟨b4, o4, eb, hp2⟩ := (HP.out.gr hg) e he
          cases eb
          rw [HQ2.out] at hp1
          rw [HR2.out] at hp2
          obtain ⟨an, cn, d0, -, -, -, d4, dI, hcn⟩ := hp1
          obtain ⟨rn, rc, -, -, -, -, f4, fI, hrc⟩ := hp2
          rw [HO.out] at d0
          rw [HQN.out] at d4 dI hcn
          rw [HRN.out] at f4 fI hrc
          obtain ⟨b5, o5, rfl, -, g1⟩ := dI.at (i := 1) (by simp [zs])
          obtain ⟨b6, o6, rfl, -, g2⟩ := fI.at (i := 0) (by simp [zs])
          obtain ⟨z, hz⟩ : ∃ z : Int, ((e + 1 : Nat) : Int) = z := ⟨_, rfl⟩
          replace g1 : wr.cell? ⟨b5, o5 + 1, none⟩ = some (.int .i64 z) := by rw [g1, ← hz]; rfl
          replace g2 : wr.cell? ⟨b6, o6, none⟩ = some (.int .i64 (k : Int)) := by simpa [zs] using g2
          have hw : IntKind.i64.wrap (((loopOf p tg).length : Int) - 1) = (n : Int) := by rw [IntWalk.i64_in _ (by omega)]; omega
          have hw2 : IntKind.i64.wrap ((e : Int) + 1) = z := by rw [IntWalk.i64_in _ (by omega)]; omega
          simp only [List.length_cons, List.length_nil] at d4 f4 hcn hrc
          clear dI fI hz hg
          go_upto_region 14 with fail
          go_quiet (fail)
          go_wp2_with fail
          go_ret
          exact ⟨rfl, (HG.out.trans0 HGm.out).drewN _⟩
end Go.Proofs.Ytpnaeijkllmihaa

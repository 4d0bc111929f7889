/- The law FnDominates: the walk of the law's own function. -/
import Derived.Test.YtadidppbhpdnkaaG3

import Derived.Test.YtadidppbhpdnkaaB17

import Derived.Test.YtadidppbhpdnkaaB19

import Derived.Test.YtadidppbhpdnkaaW3

import Derived.Test.YtadidppbhpdnkaaZ4

namespace Go.Proofs.Ytadidppbhpdnkaa

open Go.RowKit

set_option maxRecDepth 100000 in
set_option maxHeartbeats 4000000 in
theorem fnDominates_walk (a : Option Addr) (n c : Nat) (a' : Option Addr) (n' c' : Nat) (w : World) (h : BytesIn w a n) (hc : n ≤ c) (hm : n ≤ maxLen) (h' : BytesIn w a' n') (hc' : n' ≤ c') (hm' : n' ≤ maxLen) :
    Calls Try.prog 3 #[.slice a n c, .slice a' n' c'] w fun e w' => e = .returned (.bool true) ∧ Gr w w' none := by
  unfold maxLen at hm hm'
  by_cases hbig : 1048576 < n
  · go_enter Try.func3, Try.ntmps3
    go_wp2
    go_ret
    exact ⟨rfl, Gr.refl _ _⟩
  by_cases hbig' : 1048576 < n'
  · go_enter Try.func3, Try.ntmps3
    have hd : decide ((1048576 : Int) < (n : Int)) = false := decide_eq_false (by omega)
    have hd' : decide ((1048576 : Int) < (n' : Int)) = true := decide_eq_true (by omega)
    clear h h' hc hc' hm hm' hbig hbig'
    go_wp2_with fail
    go_ret
    exact ⟨rfl, Gr.refl _ _⟩
  · go_enter Try.func3, Try.ntmps3
    have hd : decide ((1048576 : Int) < (n : Int)) = false := decide_eq_false (by omega)
    have hd' : decide ((1048576 : Int) < (n' : Int)) = false := decide_eq_false (by omega)
    go_wp2_with fail
    clear hd hd'
    refine (domD_any a n c w h hc (by omega)).mono ?_
    rintro e w1 ⟨p, v0, v1, ta, tb, rfl, ⟨at', ab, ct, cb, rfl, rfl, hT, hB, ht, hcn⟩, hk1, hk2, hk3, hk4, hg1⟩
    have hlb := count_length p.body
    have hQ := PrIn.new (ct := ct) (cb := cb) hT hB
    have hgA := hg1.alloc (.cells #[.slice at' p.types.length ct, .slice ab p.body.length cb] 26)
    have hBA := h'.gr0 hgA
    clear hT hB hg1 h h'
    go_wp2_with fail
    obtain ⟨wA, hwA⟩ : ∃ wA : World, wA = w1.alloc (.cells #[.slice at' p.types.length ct, .slice ab p.body.length cb] 26) := ⟨_, rfl⟩
    rw [← hwA] at hQ hgA hBA ⊢
    clear hwA
    have HBY := Lib.hid hBA
    clear hBA
    have HQ := Lib.hid hQ
    have HG := Lib.hid hgA
    have q0 := hQ.1
    have q1 := hQ.2.1
    clear hQ hgA
    obtain ⟨D, hD⟩ : ∃ D, dominates p ta tb = D := ⟨_, rfl⟩
    have HD := Lib.hid hD
    clear hD
    refine (implDominates_any p ta tb _ _ _ _ _ HQ.out.2.2.1 HQ.out.2.2.2 (by omega) (by omega)).mono ?_
    rw [HD.out]
    rintro e w2 ⟨rfl, hg⟩
    replace HQ := Lib.hid (HQ.out.gr hg)
    replace HG := Lib.hid (HG.out.trans0 hg)
    replace q0 := HQ.out.1
    replace q1 := HQ.out.2.1
    replace HBY := Lib.hid (HBY.out.gr0 hg)
    clear hg
    go_wp2_with fail
    refine (specDominates_any p ta tb _ _ _ _ _ HQ.out.2.2.1 HQ.out.2.2.2 (by omega) (by omega)).mono ?_
    rw [HD.out]
    rintro e w3 ⟨rfl, hg⟩
    replace HQ := Lib.hid (HQ.out.gr hg)
    replace HG := Lib.hid (HG.out.trans0 hg)
    replace q0 := HQ.out.1
    replace q1 := HQ.out.2.1
    replace HBY := Lib.hid (HBY.out.gr0 hg)
    clear hg
    cases D
    · go_wp2_with fail
      refine (specDominates_any p ta tb _ _ _ _ _ HQ.out.2.2.1 HQ.out.2.2.2 (by omega) (by omega)).mono ?_
      rw [HD.out]
      rintro e w4 ⟨rfl, hg⟩
      replace HQ := Lib.hid (HQ.out.gr hg)
      replace HG := Lib.hid (HG.out.trans0 hg)
      replace q0 := HQ.out.1
      replace q1 := HQ.out.2.1
      replace HBY := Lib.hid (HBY.out.gr0 hg)
      clear hg
      go_wp2_with fail
      go_ret
      exact ⟨rfl, HG.out⟩
    · go_wp2_with fail
      refine (runD_any a' n' c' _ HBY.out hc' (by omega)).mono ?_
      rintro e w4 ⟨p2, v2, v3, cs, ac, cc, tg, rfl, ⟨at2, ab2, ct2, cb2, rfl, rfl, -, -, -, -⟩, hC, hcc, hc8, -, -, hg⟩
      replace HQ := Lib.hid (HQ.out.gr hg)
      replace HG := Lib.hid (HG.out.trans0 hg)
      replace q0 := HQ.out.1
      replace q1 := HQ.out.2.1
      have hg2 := (Gr.refl w4 none).alloc (.cells #[.slice at2 p2.types.length ct2, .slice ab2 p2.body.length cb2] 26)
      have HC := Lib.hid ((hC.mono (fun _ _ _ => trivial) (fun _ _ _ _ h => h) : InAt w4 Any cs ac).gr0 hg2)
      clear hC hg
      replace HQ := Lib.hid (HQ.out.gr hg2)
      replace HG := Lib.hid (HG.out.trans0 hg2)
      replace q0 := HQ.out.1
      replace q1 := HQ.out.2.1
      clear hg2
      go_wp2_with fail
      generalize w4.alloc (.cells #[.slice at2 p2.types.length ct2, .slice ab2 p2.body.length cb2] 26) = wB at *
      obtain ⟨R, hR⟩ : ∃ R, (runOf p cs 60).1 = R := ⟨_, rfl⟩
      obtain ⟨B, hB⟩ : ∃ B, (runOf p cs 60).2 = B := ⟨_, rfl⟩
      have HR := Lib.hid hR
      have HB := Lib.hid hB
      have hRl : (zs R).length ≤ 1048576 := by rw [zs_length, ← hR]; have := runOf_len p cs 60; omega
      clear hR hB
      refine (implRunPath_any p cs 60 _ _ _ _ _ _ _ HQ.out.2.2.1 HQ.out.2.2.2 (by omega) (by omega) HC.out hcc (by omega)).mono ?_
      rw [HR.out, HB.out]
      rintro e w5 ⟨a2, c2, rfl, hI, -, -, hg, -⟩
      replace HQ := Lib.hid (HQ.out.gr hg)
      replace HG := Lib.hid (HG.out.trans0 hg)
      replace q0 := HQ.out.1
      replace q1 := HQ.out.2.1
      replace HC := Lib.hid (HC.out.gr0 hg)
      have HL := Lib.hid (hI)
      clear hI hg
      go_wp2_with fail
      have hzl := zs_length R
      go_loopw [14, 15] (fun o i wr => ∃ (k : Nat) (b : Bool), k ≤ R.length ∧ o = .bool b ∧ i = .int .i64 k ∧ SeenAt R ta k b ∧ Gr w5 wr none) (fun _ i _ => R.length - (intOf i).toNat)
      case atStart => exact ⟨0, false, Nat.zero_le _, rfl, rfl, fun j hj h => absurd h (by omega), Gr.refl _ _⟩
      case round =>
        obtain ⟨k, b, hk, rfl, rfl, hS, hg⟩ := hrel
        have HS := Lib.hid hS
        have HGk := Lib.hid hg
        by_cases hlt : k < R.length
        · obtain ⟨b1, o1, rfl, -, e1⟩ := (HL.out.gr0 hg).at (i := k) (by omega)
          rw [zs_get] at e1
          have HN := Lib.hid (HS.out.step hlt)
          have HP := Lib.hid (fun (h : (R[k] : Int) = tb) => run_dom HR.out HD.out hlt h)
          obtain ⟨x, hx⟩ : ∃ x, R[k] = x := ⟨_, rfl⟩
          rw [hx] at e1
          have HX := Lib.hid hx
          clear hx hg hS
          obtain ⟨bn, hbn⟩ : ∃ bn, (b || ((x : Int) == ta)) = bn := ⟨_, rfl⟩
          have HBN := Lib.hid hbn
          have HN2 := Lib.hid (show SeenAt R ta (k + 1) bn from by have := HN.out; rw [HX.out, HBN.out] at this; exact this)
          by_cases htb : (x : Int) = tb
          · have hbt : bn = true := by
              obtain ⟨j, hj, hja⟩ := HP.out (by rw [HX.out]; exact htb)
              exact HN2.out j (by omega) (by omega) hja
            have htb' : ((x : Int) == tb) = true := beq_iff_eq.2 htb
            subst hbt
            clear htb
            cases b with
            | true =>
              clear hbn
              go_wp2_with fail
              go_roundw
              case rel => exact ⟨k + 1, true, by omega, by first | rfl | simp, by go_num, HN2.out, HGk.out⟩
              case measure => simp [intOf]; omega
            | false =>
              have hxa : ((x : Int) == ta) = true := by simpa using hbn
              clear hbn
              go_wp2_with fail
              go_roundw
              case rel => exact ⟨k + 1, true, by omega, by first | rfl | simp, by go_num, HN2.out, HGk.out⟩
              case measure => simp [intOf]; omega
          · have htb' : ((x : Int) == tb) = false := beq_eq_false_iff_ne.2 htb
            clear htb
            cases b with
            | true =>
              obtain rfl : bn = true := by simpa using hbn.symm
              clear hbn
              go_wp2_with fail
              go_roundw
              case rel => exact ⟨k + 1, true, by omega, by first | rfl | simp, by go_num, HN2.out, HGk.out⟩
              case measure => simp [intOf]; omega
            | false =>
              have hxa : ((x : Int) == ta) = bn := by simpa using hbn
              clear hbn
              cases bn
              all_goals
                go_wp2_with fail
                go_roundw
                case rel => exact ⟨k + 1, _, by omega, rfl, by go_num, HN2.out, HGk.out⟩
                case measure => simp [intOf]; omega
        · obtain rfl : k = R.length := by omega
          clear hg
          go_wp2_with fail
          go_ret
          exact ⟨rfl, HG.out.trans0 HGk.out⟩
end Go.Proofs.Ytadidppbhpdnkaa

/- The law FnAlwaysReaches: the walk of the law's own function. -/
import Derived.Test.YtadidppbhpdnkaaGK

import Derived.Test.YtadidppbhpdnkaaR7

namespace Go.Proofs.Ytadidppbhpdnkaa

open Go.RowKit

set_option maxRecDepth 100000 in
set_option maxHeartbeats 4000000 in
theorem fnAlwaysReaches_walk (a : Option Addr) (n c : Nat) (a' : Option Addr) (n' c' : Nat) (w : World) (h : BytesIn w a n) (hc : n ≤ c) (hm : n ≤ maxLen) (h' : BytesIn w a' n') (hc' : n' ≤ c') (hm' : n' ≤ maxLen) :
    Calls Try.prog 11 #[.slice a n c, .slice a' n' c'] w fun e w' => e = .returned (.bool true) ∧ Gr w w' none := by
  unfold maxLen at hm hm'
  by_cases hbig : 1048576 < n
  · go_enter Try.func11, Try.ntmps11
    go_wp2
    go_ret
    exact ⟨rfl, Gr.refl _ _⟩
  by_cases hbig' : 1048576 < n'
  · go_enter Try.func11, Try.ntmps11
    have hd : decide ((1048576 : Int) < (n : Int)) = false := decide_eq_false (by omega)
    have hd' : decide ((1048576 : Int) < (n' : Int)) = true := decide_eq_true (by omega)
    clear h h' hc hc' hm hm' hbig hbig'
    go_wp2_with fail
    go_ret
    exact ⟨rfl, Gr.refl _ _⟩
  · go_enter Try.func11, Try.ntmps11
    have hd : decide ((1048576 : Int) < (n : Int)) = false := decide_eq_false (by omega)
    have hd' : decide ((1048576 : Int) < (n' : Int)) = false := decide_eq_false (by omega)
    go_wp2_with fail
    clear hd hd'
    refine (alwD_any a n c w h hc (by omega)).mono ?_
    rintro e w1 ⟨p, v0, v1, ta, tb, rfl, ⟨at', ab, ct, cb, rfl, rfl, hT, hB, ht, hcn⟩, hk1, hk2, hk3, hk4, hg1⟩
    have hlb := count_length p.body
    have hQ := PrIn.new (ct := ct) (cb := cb) hT hB
    have hgA := hg1.alloc (.cells #[.slice at' p.types.length ct, .slice ab p.body.length cb] 26)
    have hBA := h'.gr0 hgA
    clear hT hB hg1 h h'
    go_wp2_with fail
    obtain ⟨wA, hwA⟩ : ∃ wA : World, wA = w1.alloc (.cells #[.slice at' p.types.length ct, .slice ab p.body.length cb] 26) := ⟨_, rfl⟩
    rw [← hwA] at hQ hgA hBA ⊢
    clear hwA
    have HBY := Lib.hid hBA
    clear hBA
    have HQ := Lib.hid hQ
    have HG := Lib.hid hgA
    have q0 := hQ.1
    have q1 := hQ.2.1
    clear hQ hgA
    obtain ⟨D, hD⟩ : ∃ D, alwaysReaches p ta tb = D := ⟨_, rfl⟩
    have HD := Lib.hid hD
    clear hD
    refine (implAlwaysReaches_any p ta tb _ _ _ _ _ HQ.out.2.2.1 HQ.out.2.2.2 (by omega) (by omega)).mono ?_
    rw [HD.out]
    rintro e w2 ⟨rfl, hg⟩
    replace HQ := Lib.hid (HQ.out.gr hg)
    replace HG := Lib.hid (HG.out.trans0 hg)
    replace q0 := HQ.out.1
    replace q1 := HQ.out.2.1
    replace HBY := Lib.hid (HBY.out.gr0 hg)
    clear hg
    go_wp2_with fail
    refine (specAlwaysReaches_any p ta tb _ _ _ _ _ HQ.out.2.2.1 HQ.out.2.2.2 (by omega) (by omega)).mono ?_
    rw [HD.out]
    rintro e w3 ⟨rfl, hg⟩
    replace HQ := Lib.hid (HQ.out.gr hg)
    replace HG := Lib.hid (HG.out.trans0 hg)
    replace q0 := HQ.out.1
    replace q1 := HQ.out.2.1
    replace HBY := Lib.hid (HBY.out.gr0 hg)
    clear hg
    cases D
    · go_wp2_with fail
      refine (specAlwaysReaches_any p ta tb _ _ _ _ _ HQ.out.2.2.1 HQ.out.2.2.2 (by omega) (by omega)).mono ?_
      rw [HD.out]
      rintro e w4 ⟨rfl, hg⟩
      replace HQ := Lib.hid (HQ.out.gr hg)
      replace HG := Lib.hid (HG.out.trans0 hg)
      replace q0 := HQ.out.1
      replace q1 := HQ.out.2.1
      replace HBY := Lib.hid (HBY.out.gr0 hg)
      clear hg
      go_wp2_with fail
      go_ret
      exact ⟨rfl, HG.out⟩
    · go_wp2_with fail
      refine (runD_any a' n' c' _ HBY.out hc' (by omega)).mono ?_
      rintro e w4 ⟨p2, v2, v3, cs, ac, cc, tg, rfl, ⟨at2, ab2, ct2, cb2, rfl, rfl, -, -, -, -⟩, hC, hcc, hc8, -, -, hg⟩
      replace HQ := Lib.hid (HQ.out.gr hg)
      replace HG := Lib.hid (HG.out.trans0 hg)
      replace q0 := HQ.out.1
      replace q1 := HQ.out.2.1
      have hg2 := (Gr.refl w4 none).alloc (.cells #[.slice at2 p2.types.length ct2, .slice ab2 p2.body.length cb2] 26)
      have HC := Lib.hid ((hC.mono (fun _ _ _ => trivial) (fun _ _ _ _ h => h) : InAt w4 Any cs ac).gr0 hg2)
      clear hC hg
      replace HQ := Lib.hid (HQ.out.gr hg2)
      replace HG := Lib.hid (HG.out.trans0 hg2)
      replace q0 := HQ.out.1
      replace q1 := HQ.out.2.1
      clear hg2
      go_wp2_with fail
      generalize w4.alloc (.cells #[.slice at2 p2.types.length ct2, .slice ab2 p2.body.length cb2] 26) = wB at *
      obtain ⟨R, hR⟩ : ∃ R, (runOf p cs 200).1 = R := ⟨_, rfl⟩
      obtain ⟨B, hB⟩ : ∃ B, (runOf p cs 200).2 = B := ⟨_, rfl⟩
      have HR := Lib.hid hR
      have HB := Lib.hid hB
      have hRl : (zs R).length ≤ 1048576 := by rw [zs_length, ← hR]; have := runOf_len p cs 200; omega
      clear hR hB
      refine (implRunPath_any p cs 200 _ _ _ _ _ _ _ HQ.out.2.2.1 HQ.out.2.2.2 (by omega) (by omega) HC.out hcc (by omega)).mono ?_
      rw [HR.out, HB.out]
      rintro e w5 ⟨a2, c2, rfl, hI, -, -, hg, -⟩
      replace HQ := Lib.hid (HQ.out.gr hg)
      replace HG := Lib.hid (HG.out.trans0 hg)
      replace q0 := HQ.out.1
      replace q1 := HQ.out.2.1
      replace HC := Lib.hid (HC.out.gr0 hg)
      have HL := Lib.hid (hI)
      clear hI hg
      go_wp2_with fail
      have hzl := zs_length R
      go_loopw [14, 15] (fun o i wr => ∃ (k : Nat) (b : Bool), k ≤ R.length ∧ o = .bool b ∧ i = .int .i64 k ∧ OpenAt R ta tb k b ∧ Gr w5 wr none) (fun _ i _ => R.length - (intOf i).toNat)
      case atStart => exact ⟨0, false, Nat.zero_le _, rfl, rfl, fun h => (by cases h), Gr.refl _ _⟩
      case round =>
        obtain ⟨k, b, hk, rfl, rfl, hS, hg⟩ := hrel
        have HS := Lib.hid hS
        have HGk := Lib.hid hg
        by_cases hlt : k < R.length
        · obtain ⟨b1, o1, rfl, -, e1⟩ := (HL.out.gr0 hg).at (i := k) (by omega)
          rw [zs_get] at e1
          have HN := Lib.hid (HS.out.step hlt)
          obtain ⟨x, hx⟩ : ∃ x, R[k] = x := ⟨_, rfl⟩
          rw [hx] at e1
          have HX := Lib.hid hx
          clear hx hg hS
          have HN2 := Lib.hid (show OpenAt R ta tb (k + 1) (((x : Int) == ta || b) && !((x : Int) == tb)) from by have := HN.out; rw [HX.out] at this; exact this)
          obtain ⟨ba, hba⟩ : ∃ ba, ((x : Int) == ta) = ba := ⟨_, rfl⟩
          obtain ⟨bb, hbb⟩ : ∃ bb, ((x : Int) == tb) = bb := ⟨_, rfl⟩
          replace HN2 := Lib.hid (show OpenAt R ta tb (k + 1) ((ba || b) && !bb) from by have := HN2.out; rw [hba, hbb] at this; exact this)
          clear HN
          cases ba <;> cases bb
          all_goals
            go_wp2_with fail
            go_roundw
            case rel => exact ⟨k + 1, _, by omega, rfl, by go_num, by simpa using HN2.out, HGk.out⟩
            case measure => simp [intOf]; omega
        · obtain rfl : k = R.length := by omega
          have HO := Lib.hid (fun (h : B = true) => HS.out.done HR.out (by rw [HB.out]; exact h) HD.out)
          clear hg hS
          cases B with
          | true =>
            obtain rfl := HO.out rfl
            go_wp2_with fail
            go_ret
            exact ⟨rfl, HG.out.trans0 HGk.out⟩
          | false =>
            go_wp2_with fail
            go_ret
            exact ⟨rfl, HG.out.trans0 HGk.out⟩
end Go.Proofs.Ytadidppbhpdnkaa

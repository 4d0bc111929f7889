/- The law FnRunLonger: the walk of the law's own function. -/
import Derived.Test.YtadidppbhpdnkaaG3

import Derived.Test.YtadidppbhpdnkaaB19

import Derived.Test.YtadidppbhpdnkaaW3

import Derived.Test.YtadidppbhpdnkaaZ3

namespace Go.Proofs.Ytadidppbhpdnkaa

open Go.RowKit

set_option maxRecDepth 100000 in
set_option maxHeartbeats 4000000 in
theorem fnRunLonger_walk (a : Option Addr) (n c : Nat) (w : World) (h : BytesIn w a n) (hc : n ≤ c) (hm : n ≤ maxLen) :
    Calls Try.prog 10 #[.slice a n c] w fun e w' => e = .returned (.bool true) ∧ Gr w w' none := by
  unfold maxLen at hm
  by_cases hbig : 1048576 < n
  · go_enter Try.func10, Try.ntmps10
    go_wp2
    go_ret
    exact ⟨rfl, Gr.refl _ _⟩
  · go_enter Try.func10, Try.ntmps10
    go_wp2_with fail
    refine (runD_any a n c w h hc (by omega)).mono ?_
    rintro e w1 ⟨p, v0, v1, cs, ac, cc, tg, rfl, ⟨at', ab, ct, cb, rfl, rfl, hT, hB, ht, hcn⟩, hC, hcc, hc8, hk1, hk2, hg1⟩
    have hlb := count_length p.body
    have hQ := PrIn.new (ct := ct) (cb := cb) hT hB
    have hgA := hg1.alloc (.cells #[.slice at' p.types.length ct, .slice ab p.body.length cb] 26)
    have hCA : ∀ o, InAt (w1.alloc o) Any cs ac := fun o => (hC.mono (fun _ _ _ => trivial) (fun _ _ _ _ h => h)).gr0 ((Gr.refl _ _).alloc _)
    clear hC
    clear hT hB hg1 h
    go_wp2_with fail
    obtain ⟨wA, hwA⟩ : ∃ wA : World, wA = w1.alloc (.cells #[.slice at' p.types.length ct, .slice ab p.body.length cb] 26) := ⟨_, rfl⟩
    have HC := Lib.hid (show InAt wA Any cs ac from by rw [hwA]; exact hCA _)
    clear hCA
    rw [← hwA] at hQ hgA ⊢
    clear hwA
    have HQ := Lib.hid hQ
    have HG := Lib.hid hgA
    have q0 := hQ.1
    have q1 := hQ.2.1
    clear hQ hgA
    obtain ⟨R, hR⟩ : ∃ R, (runOf p cs tg).1 = R := ⟨_, rfl⟩
    obtain ⟨B, hB⟩ : ∃ B, (runOf p cs tg).2 = B := ⟨_, rfl⟩
    have HR := Lib.hid hR
    have HB := Lib.hid hB
    have hRl : (zs R).length ≤ 1048576 := by rw [zs_length, ← hR]; have := runOf_len p cs tg; omega
    clear hR hB
    refine (implRunPath_any p cs tg _ _ _ _ _ _ _ HQ.out.2.2.1 HQ.out.2.2.2 (by omega) (by omega) HC.out hcc (by omega)).mono ?_
    rw [HR.out, HB.out]
    rintro e w2 ⟨a2, c2, rfl, hI, -, -, hg, -⟩
    replace HQ := Lib.hid (HQ.out.gr hg)
    replace HG := Lib.hid (HG.out.trans0 hg)
    replace q0 := HQ.out.1
    replace q1 := HQ.out.2.1
    replace HC := Lib.hid (HC.out.gr0 hg)
    have HL := Lib.hid (hI)
    clear hI hg
    go_wp2_with fail
    refine (specRunPath_any p cs tg _ _ _ _ _ _ _ HQ.out.2.2.1 HQ.out.2.2.2 (by omega) (by omega) HC.out (by omega)).mono ?_
    rw [HR.out, HB.out]
    rintro e w3 ⟨a3, c3, rfl, hI, -, -, hg, -⟩
    replace HQ := Lib.hid (HQ.out.gr hg)
    replace HG := Lib.hid (HG.out.trans0 hg)
    replace q0 := HQ.out.1
    replace q1 := HQ.out.2.1
    replace HC := Lib.hid (HC.out.gr0 hg)
    replace HL := Lib.hid (HL.out.gr0 hg)
    have HS := Lib.hid (hI)
    clear hI hg
    go_wp2_with fail
    refine (bcInts_same (zs R) _ _ _ _ _ HL.out HS.out hRl).mono ?_
    rintro e w4 ⟨rfl, hg⟩
    replace HQ := Lib.hid (HQ.out.gr hg)
    replace HG := Lib.hid (HG.out.trans0 hg)
    replace q0 := HQ.out.1
    replace q1 := HQ.out.2.1
    replace HC := Lib.hid (HC.out.gr0 hg)
    replace HL := Lib.hid (HL.out.gr0 hg)
    replace HS := Lib.hid (HS.out.gr0 hg)
    clear hg
    by_cases hin : 0 ≤ tg ∧ tg ≤ 900
    · obtain ⟨m, rfl⟩ : ∃ m : Nat, tg = m := ⟨tg.toNat, by omega⟩
      have hm9 : m ≤ 900 := by omega
      have hd1 : decide ((m : Int) < 0) = false := decide_eq_false (by omega)
      have hd2 : decide (900 < (m : Int)) = false := decide_eq_false (by omega)
      have hw : IntKind.i64.wrap ((m : Int) + 100) = ((m + 100 : Nat) : Int) := by rw [IntWalk.i64_in _ (by omega)]; omega
      obtain ⟨R2, hR⟩ : ∃ R, (runOf p cs ((m + 100 : Nat) : Int)).1 = R := ⟨_, rfl⟩
      obtain ⟨B2, hB⟩ : ∃ B, (runOf p cs ((m + 100 : Nat) : Int)).2 = B := ⟨_, rfl⟩
      have HR2 := Lib.hid hR
      have HB2 := Lib.hid hB
      have hRl2 : (zs R2).length ≤ 1048576 := by rw [zs_length, ← hR]; have := runOf_len p cs ((m + 100 : Nat) : Int); omega
      clear hR hB hin
      obtain ⟨hpre, hsame⟩ := runOf_longer (p := p) (cs := cs) hm9
      rw [HR.out, HR2.out] at hpre
      rw [HB.out] at hsame
      have HS2 := Lib.hid (show B = true → R2 = R ∧ B2 = true from fun h => by have := hsame h; rw [← HR2.out, ← HB2.out, this, HR.out, HB.out]; exact ⟨rfl, h⟩)
      have hle : (zs R).length ≤ (zs R2).length := by rw [zs_length, zs_length, ← hpre, List.length_take]; omega
      have hdge : decide (((zs R).length : Int) ≤ ((zs R2).length : Int)) = true := decide_eq_true (by omega)
      have HPRE := Lib.hid (show (zs R2).take (zs R).length = zs R from by rw [zs_length, ← zs_take, hpre])
      clear hpre hsame
      go_wp2_with fail
      refine (implRunPath_any p cs ((m + 100 : Nat) : Int) _ _ _ _ _ _ _ HQ.out.2.2.1 HQ.out.2.2.2 (by omega) (by omega) HC.out hcc (by omega)).mono ?_
      rw [HR2.out, HB2.out]
      rintro e w5 ⟨a5, c5, rfl, hI, -, -, hg, h9⟩
      replace HQ := Lib.hid (HQ.out.gr hg)
      replace HG := Lib.hid (HG.out.trans0 hg)
      replace q0 := HQ.out.1
      replace q1 := HQ.out.2.1
      replace HC := Lib.hid (HC.out.gr0 hg)
      replace HL := Lib.hid (HL.out.gr0 hg)
      replace HS := Lib.hid (HS.out.gr0 hg)
      have HL2 := Lib.hid (hI)
      clear hI hg
      have HP2 := Lib.hid (show InAt w5 Any (zs R) a5 from by have := HL2.out.pre (zs R).length; rw [HPRE.out] at this; exact this)
      have hc9 : (zs R).length ≤ c5 := by omega
      clear h9
      cases B with
      | true =>
        obtain ⟨hRR, hBB⟩ := HS2.out rfl
        subst hBB
        have hll : (zs R2).length = (zs R).length := by rw [hRR]
        clear hRR
        go_wp2_with fail
        refine (bcInts_same (zs R) _ _ _ _ _ HP2.out HL.out hRl).mono ?_
        rintro e w6 ⟨rfl, hg⟩
        replace HQ := Lib.hid (HQ.out.gr hg)
        replace HG := Lib.hid (HG.out.trans0 hg)
        replace q0 := HQ.out.1
        replace q1 := HQ.out.2.1
        replace HC := Lib.hid (HC.out.gr0 hg)
        replace HL := Lib.hid (HL.out.gr0 hg)
        replace HS := Lib.hid (HS.out.gr0 hg)
        replace HL2 := Lib.hid (HL2.out.gr0 hg)
        replace HP2 := Lib.hid (HP2.out.gr0 hg)
        clear hg
        go_wp2_with fail
        go_ret
        exact ⟨by simp, HG.out⟩
      | false =>
        go_wp2_with fail
        refine (bcInts_same (zs R) _ _ _ _ _ HP2.out HL.out hRl).mono ?_
        rintro e w6 ⟨rfl, hg⟩
        replace HQ := Lib.hid (HQ.out.gr hg)
        replace HG := Lib.hid (HG.out.trans0 hg)
        replace q0 := HQ.out.1
        replace q1 := HQ.out.2.1
        replace HC := Lib.hid (HC.out.gr0 hg)
        replace HL := Lib.hid (HL.out.gr0 hg)
        replace HS := Lib.hid (HS.out.gr0 hg)
        replace HL2 := Lib.hid (HL2.out.gr0 hg)
        replace HP2 := Lib.hid (HP2.out.gr0 hg)
        clear hg
        go_wp2_with fail
        go_ret
        exact ⟨by simp, HG.out⟩
    · have hcs : tg < 0 ∨ 900 < tg := by omega
      clear hin
      rcases hcs with hcs | hcs
      · have hd1 : decide (tg < 0) = true := decide_eq_true hcs
        go_wp2_with fail
        refine (bcInts_same (zs R) _ _ _ _ _ HL.out HS.out hRl).mono ?_
        rintro e w5 ⟨rfl, hg⟩
        replace HQ := Lib.hid (HQ.out.gr hg)
        replace HG := Lib.hid (HG.out.trans0 hg)
        replace q0 := HQ.out.1
        replace q1 := HQ.out.2.1
        replace HC := Lib.hid (HC.out.gr0 hg)
        replace HL := Lib.hid (HL.out.gr0 hg)
        replace HS := Lib.hid (HS.out.gr0 hg)
        clear hg
        go_wp2_with fail
        go_ret
        exact ⟨by simp, HG.out⟩
      · have hd1 : decide (tg < 0) = false := decide_eq_false (by omega)
        have hd2 : decide (900 < tg) = true := decide_eq_true hcs
        go_wp2_with fail
        refine (bcInts_same (zs R) _ _ _ _ _ HL.out HS.out hRl).mono ?_
        rintro e w5 ⟨rfl, hg⟩
        replace HQ := Lib.hid (HQ.out.gr hg)
        replace HG := Lib.hid (HG.out.trans0 hg)
        replace q0 := HQ.out.1
        replace q1 := HQ.out.2.1
        replace HC := Lib.hid (HC.out.gr0 hg)
        replace HL := Lib.hid (HL.out.gr0 hg)
        replace HS := Lib.hid (HS.out.gr0 hg)
        clear hg
        go_wp2_with fail
        go_ret
        exact ⟨by simp, HG.out⟩
end Go.Proofs.Ytadidppbhpdnkaa

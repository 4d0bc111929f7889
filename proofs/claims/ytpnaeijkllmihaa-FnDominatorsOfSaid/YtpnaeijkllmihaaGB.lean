/- The law FnDominatorsOf: the walk of the law's own function. -/
import Derived.Test.YtpnaeijkllmihaaG3

import Derived.Test.YtpnaeijkllmihaaB16

import Derived.Test.YtpnaeijkllmihaaY3

namespace Go.Proofs.Ytpnaeijkllmihaa

open Go.RowKit

/-- All points below j that lead to t are dominated by k. -/
noncomputable def allD (p : Pr) (k t j : Nat) : Bool := decide (0 < t) && (List.range j).all fun i => !decide (t ∈ nextOf (ptsOf p) i) || dominates p k i
theorem allD_step (p : Pr) (k t j : Nat) : allD p k t (j + 1) = (allD p k t j && (!decide (t ∈ nextOf (ptsOf p) j) || dominates p k j)) := by
  unfold allD
  rw [List.range_succ, List.all_append, Bool.and_assoc]; simp
theorem doms_law {p : Pr} {k t : Nat} (hk : k < (ptsOf p).length) (ht : t < (ptsOf p).length) : decide ((k : Int) ∈ domsOf p t) = (decide (k = t) || allD p k t (ptsOf p).length) := by
  rw [Bool.eq_iff_iff, decide_eq_true_iff, Bool.or_eq_true, decide_eq_true_iff]
  have e : (k : Int) ∈ domsOf p t ↔ domL (ptsOf p) k t = true := by
    rw [mem_doms ht]
    constructor
    · rintro ⟨k', _, h, e⟩; obtain rfl : k = k' := by omega
      exact h
    · exact fun h => ⟨k, hk, h, rfl⟩
  rw [e]
  by_cases h : k = t
  · subst h; simp [dom_self]
  · rw [dom_law h]
    unfold allD
    simp only [h, false_or, Bool.and_eq_true, decide_eq_true_eq, List.all_eq_true, List.mem_range, Bool.or_eq_true, Bool.not_eq_true']
    constructor
    · rintro ⟨h0, h1⟩
      refine ⟨h0, fun i hi => ?_⟩
      by_cases hm : t ∈ nextOf (ptsOf p) i
      · right; rw [dom_nat hk hi]; exact h1 i hi hm
      · left; simp [hm]
    · rintro ⟨h0, h1⟩
      refine ⟨h0, fun i hi hm => ?_⟩
      rcases h1 i hi with h2 | h2
      · simp [hm] at h2
      · rw [dom_nat hk hi] at h2; exact h2
theorem bcIn_zs (l : List Nat) (t : Nat) (a : Option Addr) (c : Nat) (w : World) (ha : InAt w Any (zs l) a) (hl : l.length ≤ 1048576) :
    Calls Try.prog 35 #[.slice a l.length c, .int .i64 t] w fun e w' => e = .returned (.bool (decide (t ∈ l))) ∧ Gr w w' none := by
  have e : (zs l).length = l.length := by simp [zs]
  have e2 : decide ((t : Int) ∈ zs l) = decide (t ∈ l) := by
    rw [decide_eq_decide]; unfold zs; simp
    constructor
    · rintro ⟨a, h1, h2⟩
      obtain rfl : a = t := by omega
      exact h1
    · exact fun h => ⟨t, h, rfl⟩
  rw [← e, ← e2]
  exact bcIn_any (zs l) t a c w ha (by omega)

set_option maxRecDepth 100000 in
set_option maxHeartbeats 4000000 in
theorem fnDominatorsOf_walk (a : Option Addr) (n c : Nat) (w : World) (h : BytesIn w a n) (hc : n ≤ c) (hm : n ≤ maxLen) :
    Calls Try.prog 8 #[.slice a n c] w fun e w' => e = .returned (.bool true) ∧ Gr w w' none := by
  unfold maxLen at hm
  by_cases hbig : 1048576 < n
  · go_enter Try.func8, Try.ntmps8
    go_wp2
    go_ret
    exact ⟨rfl, Gr.refl _ _⟩
  · go_enter Try.func8, Try.ntmps8
    go_wp2_with fail
    refine (domsOfD_any a n c w h hc (by omega)).mono ?_
    rintro e w1 ⟨p, v0, v1, tg, rfl, ⟨at', ab, ct, cb, rfl, rfl, hT, hB, ht, hcn⟩, hk1, hk2, hg1⟩
    have hlb := count_length p.body
    have hQ := PrIn.new (ct := ct) (cb := cb) hT hB
    have hgA := hg1.alloc (.cells #[.slice at' p.types.length ct, .slice ab p.body.length cb] 26)
    clear hT hB hg1 h
    go_wp2_with fail
    obtain ⟨wA, hwA⟩ : ∃ wA : World, wA = w1.alloc (.cells #[.slice at' p.types.length ct, .slice ab p.body.length cb] 26) := ⟨_, rfl⟩
    rw [← hwA] at hQ hgA ⊢
    clear hwA
    have HQ := Lib.hid hQ
    have HG := Lib.hid hgA
    have q0 := hQ.1
    have q1 := hQ.2.1
    clear hQ hgA
    refine (implDominatorsOf_any p tg _ _ _ _ _ HQ.out.2.2.1 HQ.out.2.2.2 (by omega) (by omega)).mono ?_
    rintro e w2 ⟨a2, c2, rfl, hI, -, -, hg⟩
    replace HQ := Lib.hid (HQ.out.gr hg)
    replace HG := Lib.hid (HG.out.trans0 hg)
    replace q0 := HQ.out.1
    replace q1 := HQ.out.2.1
    have HL := Lib.hid (hI)
    clear hI hg
    go_wp2_with fail
    refine (implPointsOf_any p  _ _ _ _ _ HQ.out.2.2.1 HQ.out.2.2.2 (by omega) (by omega)).mono ?_
    rintro e w3 ⟨M, a3, c3, hM, rfl, hP, hg⟩
    replace HQ := Lib.hid (HQ.out.gr hg)
    replace HG := Lib.hid (HG.out.trans0 hg)
    replace q0 := HQ.out.1
    replace q1 := HQ.out.2.1
    replace HL := Lib.hid (HL.out.gr0 hg)
    have HP := Lib.hid (hP.read)
    have HM := Lib.hid (hM)
    clear hM hP hg
    go_wp2_with fail
    have hMl : M.length ≤ 61 := by rw [HM.out]; exact ptsOf_le p
    refine (specDominatorsOf_any p tg _ _ _ _ _ HQ.out.2.2.1 HQ.out.2.2.2 (by omega) (by omega)).mono ?_
    rintro e w4 ⟨a4, c4, rfl, hI, -, -, hg⟩
    replace HQ := Lib.hid (HQ.out.gr hg)
    replace HG := Lib.hid (HG.out.trans0 hg)
    replace q0 := HQ.out.1
    replace q1 := HQ.out.2.1
    replace HL := Lib.hid (HL.out.gr0 hg)
    replace HP := Lib.hid (HP.out.gr hg)
    have HS := Lib.hid (hI)
    clear hI hg
    go_wp2_with fail
    have hLl : (domsOf p tg).length ≤ 1048576 := domsOf_len p tg
    refine (bcInts_same (domsOf p tg) _ _ _ _ _ HL.out HS.out hLl).mono ?_
    rintro e w5 ⟨rfl, hg⟩
    replace HQ := Lib.hid (HQ.out.gr hg)
    replace HG := Lib.hid (HG.out.trans0 hg)
    replace q0 := HQ.out.1
    replace q1 := HQ.out.2.1
    replace HL := Lib.hid (HL.out.gr0 hg)
    replace HP := Lib.hid (HP.out.gr hg)
    replace HS := Lib.hid (HS.out.gr0 hg)
    clear hg
    by_cases hin : 0 ≤ tg ∧ tg < M.length
    · obtain ⟨t, rfl⟩ : ∃ t : Nat, tg = t := ⟨tg.toNat, by omega⟩
      have ht9 : t < M.length := by omega
      clear hin
      go_wp2_with fail
      go_loopw [7] (fun i wr => ∃ k : Nat, k ≤ M.length ∧ i = .int .i64 k ∧ Gr w5 wr none) (fun i _ => M.length - (intOf i).toNat)
      case atStart => exact ⟨0, Nat.zero_le _, rfl, Gr.refl _ _⟩
      case round =>
        obtain ⟨k, hk, rfl, hg⟩ := hrel
        have HGk := Lib.hid hg
        clear hg
        by_cases hlt : k < M.length
        · go_wp2_with fail
          go_loopw [8, 9] (fun v i wr' => ∃ j : Nat, j ≤ M.length ∧ i = .int .i64 j ∧ v = .bool (allD p k t j) ∧ Gr w5 wr' none) (fun _ i _ => M.length - (intOf i).toNat)
          case atStart => exact ⟨0, Nat.zero_le _, rfl, by simp [allD], HGk.out⟩
          case round =>
            obtain ⟨j, hj, rfl, rfl, hg⟩ := hrel
            have r0 := hg.cell q0 (by simp)
            have r1 := hg.cell q1 (by simp)
            have HGj := Lib.hid hg
            by_cases hjl : j < M.length
            · obtain ⟨b1, o1, rfl, hpt⟩ := (HP.out.gr hg) j hjl
              clear hg
              obtain ⟨q, hq⟩ : ∃ q, M[j] = q := ⟨_, rfl⟩
              rw [hq] at hpt
              have hqn : nextOf (ptsOf p) j = q.next := next_of (by rw [← HM.out, List.getElem?_eq_getElem hjl, hq])
              have hnl : q.next.length ≤ 1048576 := ptsOf_small HM.out q (hq ▸ List.getElem_mem hjl)
              have HST := Lib.hid (show allD p k t (j + 1) = (allD p k t j && (!decide (t ∈ q.next) || dominates p k j)) from by rw [allD_step, hqn])
              obtain ⟨an, cn, -, -, -, -, c4, cI, hcn⟩ := hpt
              have HCI := Lib.hid cI
              clear hq hqn cI
              obtain ⟨B, hB⟩ : ∃ B, allD p k t j = B := ⟨_, rfl⟩
              rw [hB]
              replace HST := Lib.hid (show allD p k t (j + 1) = (B && (!decide (t ∈ q.next) || dominates p k j)) from by rw [HST.out, hB])
              clear hB
              go_wp2_with fail
              refine (bcIn_zs q.next t _ _ _ HCI.out hnl).mono ?_
              rintro e w8 ⟨rfl, hg8⟩
              have HG8 := Lib.hid (HGj.out.trans0 hg8)
              have s0 := hg8.cell r0 (by simp)
              have s1 := hg8.cell r1 (by simp)
              clear hg8 r0 r1 c4
              obtain ⟨E, hE⟩ : ∃ E, decide (t ∈ q.next) = E := ⟨_, rfl⟩
              rw [hE]
              replace HST := Lib.hid (show allD p k t (j + 1) = (B && (!E || dominates p k j)) from by rw [HST.out, hE])
              clear hE
              cases E
              · go_wp2_with fail
                go_roundw
                case rel => exact ⟨j + 1, by omega, by go_num, by rw [HST.out]; simp, HG8.out⟩
                case measure => simp [intOf]; omega
              · go_wp2_with fail
                refine (implDominates_any p k j _ _ _ _ _ (HQ.out.2.2.1.gr0 HG8.out) (HQ.out.2.2.2.gr0 HG8.out) (by omega) (by omega)).mono ?_
                rintro e w9 ⟨rfl, hg9⟩
                have HG9 := Lib.hid (HG8.out.trans0 hg9)
                clear hg9
                obtain ⟨F, hF⟩ : ∃ F, dominates p k j = F := ⟨_, rfl⟩
                rw [hF]
                replace HST := Lib.hid (show allD p k t (j + 1) = (B && (!true || F)) from by rw [HST.out, hF])
                clear hF
                cases F
                all_goals
                  go_wp2_with fail
                  go_roundw
                  case rel => exact ⟨j + 1, by omega, by go_num, by rw [HST.out]; simp, HG9.out⟩
                  case measure => simp [intOf]; omega
            · obtain rfl : j = M.length := by omega
              have HLAW := Lib.hid (show decide ((k : Int) ∈ domsOf p t) = (decide (k = t) || allD p k t M.length) from by rw [HM.out]; exact doms_law (by rw [← HM.out]; exact hlt) (by rw [← HM.out]; exact ht9))
              clear hg
              go_wp2_with fail
              refine (bcIn_any (domsOf p t) k _ _ _ (HL.out.gr0 HGj.out) hLl).mono ?_
              rintro e w8 ⟨rfl, hg8⟩
              rw [HLAW.out]
              have HG8 := Lib.hid (HGj.out.trans0 hg8)
              clear hg8 HLAW
              generalize allD p k t M.length = B
              by_cases hkt : k = t
              · subst hkt
                have e1 : (decide (k = k) || B) = true := by simp
                rw [e1]
                clear e1
                go_wp2_with fail
                go_roundw
                case rel => exact ⟨k + 1, by omega, by go_num, HG8.out⟩
                case measure => simp [intOf]; omega
              · have e1 : (decide (k = t) || B) = B := by simp [hkt]
                have hkt' : ((k : Int) == (t : Int)) = false := beq_eq_false_iff_ne.2 (by omega)
                rw [e1]
                clear e1 hkt
                cases B
                all_goals
                  go_wp2_with fail
                  go_roundw
                  case rel => exact ⟨k + 1, by omega, by go_num, HG8.out⟩
                  case measure => simp [intOf]; omega
        · go_wp2
          go_ret
          exact ⟨rfl, HG.out.trans0 HGk.out⟩
    · have hnil : domsOf p tg = [] := domsOf_out (by rw [HM.out] at hin; unfold hasTwo; simp; omega)
      have HN := Lib.hid (show (domsOf p tg).length = 0 from by rw [hnil]; rfl)
      clear hnil
      have hcs : tg < 0 ∨ (M.length : Int) ≤ tg := by omega
      clear hin
      rcases hcs with hcs | hcs
      · skip
        go_wp2_with fail
        refine (specDominatorsOf_any p tg _ _ _ _ _ HQ.out.2.2.1 HQ.out.2.2.2 (by omega) (by omega)).mono ?_
        rintro e w6 ⟨a6, c6, rfl, hI, -, -, hg⟩
        replace HQ := Lib.hid (HQ.out.gr hg)
        replace HG := Lib.hid (HG.out.trans0 hg)
        replace q0 := HQ.out.1
        replace q1 := HQ.out.2.1
        replace HL := Lib.hid (HL.out.gr0 hg)
        replace HP := Lib.hid (HP.out.gr hg)
        replace HS := Lib.hid (HS.out.gr0 hg)
        have HS2 := Lib.hid (hI)
        clear hI hg
        go_wp2_with fail
        refine (bcInts_same (domsOf p tg) _ _ _ _ _ HL.out HS2.out hLl).mono ?_
        rintro e w7 ⟨rfl, hg⟩
        replace HQ := Lib.hid (HQ.out.gr hg)
        replace HG := Lib.hid (HG.out.trans0 hg)
        replace q0 := HQ.out.1
        replace q1 := HQ.out.2.1
        replace HL := Lib.hid (HL.out.gr0 hg)
        replace HP := Lib.hid (HP.out.gr hg)
        replace HS := Lib.hid (HS.out.gr0 hg)
        replace HS2 := Lib.hid (HS2.out.gr0 hg)
        clear hg
        have hl0 := HN.out
        go_wp2_with fail
        go_ret
        exact ⟨rfl, HG.out⟩
      · have hge : 0 ≤ tg := by omega
        go_wp2_with fail
        · exfalso; omega
        refine (specDominatorsOf_any p tg _ _ _ _ _ HQ.out.2.2.1 HQ.out.2.2.2 (by omega) (by omega)).mono ?_
        rintro e w8 ⟨a6, c6, rfl, hI, -, -, hg⟩
        replace HQ := Lib.hid (HQ.out.gr hg)
        replace HG := Lib.hid (HG.out.trans0 hg)
        replace q0 := HQ.out.1
        replace q1 := HQ.out.2.1
        replace HL := Lib.hid (HL.out.gr0 hg)
        replace HP := Lib.hid (HP.out.gr hg)
        replace HS := Lib.hid (HS.out.gr0 hg)
        have HS2 := Lib.hid (hI)
        clear hI hg
        go_wp2_with fail
        refine (bcInts_same (domsOf p tg) _ _ _ _ _ HL.out HS2.out hLl).mono ?_
        rintro e w9 ⟨rfl, hg⟩
        replace HQ := Lib.hid (HQ.out.gr hg)
        replace HG := Lib.hid (HG.out.trans0 hg)
        replace q0 := HQ.out.1
        replace q1 := HQ.out.2.1
        replace HL := Lib.hid (HL.out.gr0 hg)
        replace HP := Lib.hid (HP.out.gr hg)
        replace HS := Lib.hid (HS.out.gr0 hg)
        replace HS2 := Lib.hid (HS2.out.gr0 hg)
        clear hg
        have hl0 := HN.out
        go_wp2_with fail
        go_ret
        exact ⟨rfl, HG.out⟩
end Go.Proofs.Ytpnaeijkllmihaa

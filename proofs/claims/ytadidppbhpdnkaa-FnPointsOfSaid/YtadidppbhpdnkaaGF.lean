/- The law FnPointsOf: the walk of the law's own function. -/
import Derived.Test.YtadidppbhpdnkaaG3

import Derived.Test.YtadidppbhpdnkaaB16

import Derived.Test.YtadidppbhpdnkaaW1

import Derived.Test.YtadidppbhpdnkaaZ3

namespace Go.Proofs.Ytadidppbhpdnkaa

open Go.RowKit

set_option maxRecDepth 100000 in
set_option maxHeartbeats 4000000 in
theorem fnPointsOf_walk (a : Option Addr) (n c : Nat) (w : World) (h : BytesIn w a n) (hc : n ≤ c) (hm : n ≤ maxLen) :
    Calls Try.prog 12 #[.slice a n c] w fun e w' => e = .returned (.bool true) ∧ Gr w w' none := by
  unfold maxLen at hm
  by_cases hbig : 1048576 < n
  · go_enter Try.func12, Try.ntmps12
    go_wp2
    go_ret
    exact ⟨rfl, Gr.refl _ _⟩
  · go_enter Try.func12, Try.ntmps12
    go_wp2_with fail
    refine (ptsOfD_any a n c w h hc (by omega)).mono ?_
    rintro e w1 ⟨p, v0, v1, rfl, ⟨at', ab, ct, cb, rfl, rfl, hT, hB, ht, hcn⟩, hg1⟩
    have hlb := count_length p.body
    have hQ := PrIn.new (ct := ct) (cb := cb) hT hB
    have hgA := hg1.alloc (.cells #[.slice at' p.types.length ct, .slice ab p.body.length cb] 26)
    clear hT hB hg1 h
    go_wp2_with fail
    obtain ⟨wA, hwA⟩ : ∃ wA : World, wA = w1.alloc (.cells #[.slice at' p.types.length ct, .slice ab p.body.length cb] 26) := ⟨_, rfl⟩
    rw [← hwA] at hQ hgA ⊢
    clear hwA
    have HQ := Lib.hid hQ
    have HG := Lib.hid hgA
    have q0 := hQ.1
    have q1 := hQ.2.1
    clear hQ hgA
    refine (implPointsOf_any p  _ _ _ _ _ HQ.out.2.2.1 HQ.out.2.2.2 (by omega) (by omega)).mono ?_
    rintro e w2 ⟨M, a3, c3, hM, rfl, hP, hg⟩
    replace HQ := Lib.hid (HQ.out.gr hg)
    replace HG := Lib.hid (HG.out.trans0 hg)
    replace q0 := HQ.out.1
    replace q1 := HQ.out.2.1
    have HP := Lib.hid (hP.read)
    have HM := Lib.hid (hM)
    clear hM hP hg
    have hMl : M.length ≤ 61 := by rw [HM.out]; exact ptsOf_le p
    go_wp2_with fail
    refine (specPointsOf_any p  _ _ _ _ _ HQ.out.2.2.1 HQ.out.2.2.2 (by omega) (by omega)).mono ?_
    rintro e w3 ⟨M2, a4, c4, hM2, rfl, hP2, hg⟩
    replace HQ := Lib.hid (HQ.out.gr hg)
    replace HG := Lib.hid (HG.out.trans0 hg)
    replace q0 := HQ.out.1
    replace q1 := HQ.out.2.1
    replace HP := Lib.hid (HP.out.gr hg)
    have HP2 := Lib.hid (hP2.read)
    clear hP2 hg
    obtain rfl : M = M2 := by rw [hM2, HM.out]
    clear hM2
    go_wp2_with fail
    refine (bcPoints_same M _ _ _ _ _ HP.out HP2.out (by omega) (ptsOf_small HM.out)).mono ?_
    rintro e w4 ⟨rfl, hg⟩
    replace HQ := Lib.hid (HQ.out.gr hg)
    replace HG := Lib.hid (HG.out.trans0 hg)
    replace q0 := HQ.out.1
    replace q1 := HQ.out.2.1
    replace HP := Lib.hid (HP.out.gr hg)
    replace HP2 := Lib.hid (HP2.out.gr hg)
    clear hg
    go_wp2_with fail
    refine (valid_any p  _ _ _ _ _ HQ.out.2.2.1 HQ.out.2.2.2 (by omega) (by omega)).mono ?_
    rintro e w5 ⟨rfl, hg⟩
    replace HQ := Lib.hid (HQ.out.gr hg)
    replace HG := Lib.hid (HG.out.trans0 hg)
    replace q0 := HQ.out.1
    replace q1 := HQ.out.2.1
    replace HP := Lib.hid (HP.out.gr hg)
    replace HP2 := Lib.hid (HP2.out.gr hg)
    clear hg
    cases hv : validP p with
    | false =>
      have hM0 : M.length = 0 := by rw [HM.out]; unfold ptsOf; rw [hv]; rfl
      have hM0' : ((M.length : Int) == 0) = true := by rw [hM0]; rfl
      clear hv hM0
      go_wp2_with fail
      refine (specPointsOf_any p  _ _ _ _ _ HQ.out.2.2.1 HQ.out.2.2.2 (by omega) (by omega)).mono ?_
      rintro e w6 ⟨M2, a6, c6, hM2, rfl, hP2, hg⟩
      replace HQ := Lib.hid (HQ.out.gr hg)
      replace HG := Lib.hid (HG.out.trans0 hg)
      replace q0 := HQ.out.1
      replace q1 := HQ.out.2.1
      replace HP := Lib.hid (HP.out.gr hg)
      have HP2 := Lib.hid (hP2.read)
      clear hP2 hg
      obtain rfl : M = M2 := by rw [hM2, HM.out]
      clear hM2
      go_wp2_with fail
      refine (bcPoints_same M _ _ _ _ _ HP.out HP2.out (by omega) (ptsOf_small HM.out)).mono ?_
      rintro e w7 ⟨rfl, hg⟩
      replace HQ := Lib.hid (HQ.out.gr hg)
      replace HG := Lib.hid (HG.out.trans0 hg)
      replace q0 := HQ.out.1
      replace q1 := HQ.out.2.1
      replace HP := Lib.hid (HP.out.gr hg)
      replace HP2 := Lib.hid (HP2.out.gr hg)
      clear hg
      go_wp2_with fail
      go_ret
      exact ⟨rfl, HG.out⟩
    | true =>
      have hMp : 0 < M.length := by rw [HM.out]; exact pts_pos hv
      have HV := Lib.hid hv
      have HCNT := Lib.hid (pts_count HM.out hv)
      clear hv
      have hw : IntKind.i64.wrap ((M.length : Int) - 1) = ((M.length - 1 : Nat) : Int) := by rw [IntWalk.i64_in _ (by omega)]; omega
      go_wp2_with fail
      go_loopw [6] (fun i wr => ∃ k : Nat, k ≤ M.length ∧ i = .int .i64 k ∧ Gr w5 wr none) (fun i _ => M.length - (intOf i).toNat)
      case atStart => exact ⟨0, Nat.zero_le _, rfl, Gr.refl _ _⟩
      case round =>
        obtain ⟨k, hk, rfl, hg⟩ := hrel
        have HGk := Lib.hid hg
        by_cases hlt : k < M.length
        · obtain ⟨b1, o1, rfl, hpt⟩ := (HP.out.gr hg) k hlt
          obtain ⟨q, hq⟩ : ∃ q, M[k] = q := ⟨_, rfl⟩
          rw [hq] at hpt
          have hqn : nextOf (ptsOf p) k = q.next := next_of (by rw [← HM.out, List.getElem?_eq_getElem hlt, hq])
          have hnx := ptsOf_ok p k (by rw [← HM.out]; exact hlt)
          rw [hqn, ← HM.out] at hnx
          have hnl := hnx.1
          have HNX := Lib.hid hnx.2
          have hform := ptAt_form HV.out (k := k) (by rw [← HM.out]; exact hlt)
          rw [← HM.out, ptAt_get hlt, hq] at hform
          have HF := Lib.hid (show (q.next.length = 0 ↔ k + 1 = M.length) from by
            rcases hform with ⟨h1, h2⟩ | ⟨h1, h2, h3⟩
            · refine ⟨fun _ => h2, fun _ => ?_⟩
              have hp := ptsOf_pts HV.out
              rcases pts_form p (k := k) (q := q) (by rw [← hp, ← HM.out, List.getElem?_eq_getElem hlt, hq]) with ⟨h5, _⟩ | ⟨_, rfl⟩
              · rw [← hp, ← HM.out] at h5; omega
              · rfl
            · refine ⟨fun h => ?_, fun h => by omega⟩
              exact absurd (List.eq_nil_of_length_eq_zero h) h3.2.2.1)
          obtain ⟨an, cn, c0, -, -, -, c4, cI, hcn⟩ := hpt
          have HQ3 := Lib.hid hq
          clear hq hqn hnx hform cI c0
          obtain ⟨B, hb1⟩ : ∃ B, ((q.next.length : Int) == 0) = B := ⟨_, rfl⟩
          have hb2 : ((k : Int) == ((M.length - 1 : Nat) : Int)) = B := by
            rw [← hb1, Bool.eq_iff_iff, beq_iff_eq, beq_iff_eq]
            have := HF.out
            omega
          clear hg
          go_wp2_with fail
          go_loopw [7] (fun i wr' => ∃ j : Nat, j ≤ q.next.length ∧ i = .int .i64 j ∧ Gr w5 wr' none) (fun i _ => q.next.length - (intOf i).toNat)
          case atStart => exact ⟨0, Nat.zero_le _, rfl, HGk.out⟩
          case round =>
            obtain ⟨j, hj, rfl, hg⟩ := hrel
            have HGj := Lib.hid hg
            obtain ⟨b2, o2, eb, hpt2⟩ := (HP.out.gr hg) k hlt
            cases eb
            rw [HQ3.out] at hpt2
            obtain ⟨an2, cn2, -, -, -, -, r4, rI, hcn2⟩ := hpt2
            have HRI := Lib.hid rI
            clear rI hg c4 hb1 hb2
            by_cases hjl : j < q.next.length
            · obtain ⟨b3, o3, rfl, -, e1⟩ := HRI.out.at (i := j) (by simpa [zs] using hjl)
              rw [zs_get] at e1
              obtain ⟨z, hz⟩ : ∃ z : Int, ((q.next[j] : Nat) : Int) = z := ⟨_, rfl⟩
              have hz0 : 0 ≤ z := by omega
              have hz1 : z ≤ ((M.length - 1 : Nat) : Int) := by have := HNX.out _ (List.getElem_mem hjl); omega
              rw [hz] at e1
              clear hz
              have hd1 : decide (z < 0) = false := decide_eq_false (by omega)
              have hd2 : decide (((M.length - 1 : Nat) : Int) < z) = false := decide_eq_false (by omega)
              go_wp2_with fail
              go_roundw
              case rel => exact ⟨j + 1, by omega, by go_num, HGj.out⟩
              case measure => simp [intOf]; omega
            · go_wp2_with fail
              go_roundw
              case rel => exact ⟨k + 1, by omega, by go_num, HGj.out⟩
              case measure => simp [intOf]; omega
        · obtain ⟨b1, o1, rfl, hpt⟩ := (HP.out.gr hg) (M.length - 1) (by omega)
          have hform := ptAt_form HV.out (k := M.length - 1) (by rw [← HM.out]; omega)
          rw [← HM.out, ptAt_get (by omega)] at hform
          have hop : M[M.length - 1].op = 11 := by rcases hform with ⟨h1, _⟩ | ⟨_, h2, _⟩; exact h1; omega
          obtain ⟨an, cn, c0, -, -, -, -, -, -⟩ := hpt
          rw [hop] at c0
          have r0 := hg.cell q0 (by simp)
          have r1 := hg.cell q1 (by simp)
          have hcn0 : cntOf p = St.count p.body := cntOf_in HV.out
          have hc1 := HCNT.out
          rw [← hcn0] at hc1
          have hsum : IntKind.i64.wrap (IntKind.i64.wrap ((cntOf p : Int) + (chs M : Int)) + 1) = (M.length : Int) := by
            rw [show (cntOf p : Int) + (chs M : Int) = ((cntOf p + chs M : Nat) : Int) from by omega, IntWalk.i64_in ((cntOf p + chs M : Nat) : Int) (by omega), IntWalk.i64_in _ (by omega)]
            omega
          have hlt9 : M.length - 1 < M.length := by omega
          clear hform hop hg hcn0 hc1
          go_upto_region 18 with fail
          refine wp_region_held_drew (S := fun w' => Gr wr w' none) (by kernel_rfl) ((Gr.refl _ _).drew) (fun hHeld => ?_)
          refine wpAnyH_take (i := 0) (v := ?_) rfl (by kernel_rfl) (by kernel_rfl) (by kernel_rfl) (fun _ _ _ h => h) (Or.inl ⟨by rfl, ?_⟩) hHeld ?_
          rotate_left
          focus (intro wq hq; clear hq; go_simp; try with_reducible rfl)
          simp only [Act.put, List.getElem_toArray, List.getElem_cons_zero, List.setIfInBounds_toArray, List.set_cons_zero, List.set_cons_succ]
          refine wpAnyH_take (i := 1) (v := ?_) rfl (by kernel_rfl) (by kernel_rfl) (by kernel_rfl) (fun _ _ _ h => h) (Or.inl ⟨by rfl, ?_⟩) hHeld ?_
          rotate_left
          focus (intro wq hq; clear hq; go_simp; try with_reducible rfl)
          simp only [Act.put, List.getElem_toArray, List.getElem_cons_succ, List.getElem_cons_zero, List.setIfInBounds_toArray, List.set_cons_zero, List.set_cons_succ]
          refine wpAnyH_take (i := 2) (v := ?_) rfl (by kernel_rfl) (by kernel_rfl) (by kernel_rfl) (fun _ _ _ h => h) (Or.inl ⟨by rfl, ?_⟩) hHeld ?_
          rotate_left
          focus (intro wq hq; clear hq; go_simp; try with_reducible rfl)
          simp only [Act.put, List.getElem_toArray, List.getElem_cons_succ, List.getElem_cons_zero, List.setIfInBounds_toArray, List.set_cons_zero, List.set_cons_succ]
          refine wpAnyH_take (i := 3) (v := ?_) rfl (by kernel_rfl) (by kernel_rfl) (by kernel_rfl) (fun _ _ _ h => h) (Or.inl ⟨by rfl, ?_⟩) hHeld ?_
          rotate_left
          focus (intro wq hq; clear hq; go_simp; try with_reducible rfl)
          simp only [Act.put, List.getElem_toArray, List.getElem_cons_succ, List.getElem_cons_zero, List.setIfInBounds_toArray, List.set_cons_zero, List.set_cons_succ]
          refine wpAnyH_take (i := 4) (v := ?_) rfl (by kernel_rfl) (by kernel_rfl) (by kernel_rfl) (fun _ _ _ h => h) (Or.inl ⟨by rfl, ?_⟩) hHeld ?_
          rotate_left
          focus (intro wq hq; have k0 := hq.cell c0 (by simp); go_simp; try with_reducible rfl)
          simp only [Act.put, List.getElem_toArray, List.getElem_cons_succ, List.getElem_cons_zero, List.setIfInBounds_toArray, List.set_cons_zero, List.set_cons_succ]
          refine wpAnyH_take (i := 5) (v := ?_) rfl (by kernel_rfl) (by kernel_rfl) (by kernel_rfl) (fun _ _ _ h => h) (Or.inl ⟨by rfl, ?_⟩) hHeld ?_
          rotate_left
          focus (intro wq hq; clear hq; go_simp; try with_reducible rfl)
          simp only [Act.put, List.getElem_toArray, List.getElem_cons_succ, List.getElem_cons_zero, List.setIfInBounds_toArray, List.set_cons_zero, List.set_cons_succ]
          refine wpAnyH_take (i := 6) (v := ?_) rfl (by kernel_rfl) (by kernel_rfl) (by kernel_rfl) (fun _ _ _ h => h) (Or.inl ⟨by rfl, ?_⟩) hHeld ?_
          rotate_left
          focus (intro wq hq; clear hq; go_simp; try with_reducible rfl)
          simp only [Act.put, List.getElem_toArray, List.getElem_cons_succ, List.getElem_cons_zero, List.setIfInBounds_toArray, List.set_cons_zero, List.set_cons_succ]
          refine wpAnyH_take (i := 7) (v := ?_) rfl (by kernel_rfl) (by kernel_rfl) (by kernel_rfl) (fun _ _ _ h => h) (Or.inl ⟨by rfl, ?_⟩) hHeld ?_
          rotate_left
          focus (intro wq hq; clear hq; go_simp; try with_reducible rfl)
          simp only [Act.put, List.getElem_toArray, List.getElem_cons_succ, List.getElem_cons_zero, List.setIfInBounds_toArray, List.set_cons_zero, List.set_cons_succ]
          refine wpAnyH_take (i := 8) (v := ?_) rfl (by kernel_rfl) (by kernel_rfl) (by kernel_rfl) (fun _ _ _ h => h) (Or.inl ⟨by rfl, ?_⟩) hHeld ?_
          rotate_left
          focus (intro wq hq; clear hq; go_simp; try with_reducible rfl)
          simp only [Act.put, List.getElem_toArray, List.getElem_cons_succ, List.getElem_cons_zero, List.setIfInBounds_toArray, List.set_cons_zero, List.set_cons_succ]
          refine wpAnyH_take (i := 9) (v := ?_) rfl (by kernel_rfl) (by kernel_rfl) (by kernel_rfl) (fun _ _ _ h => h) (Or.inl ⟨by rfl, ?_⟩) hHeld ?_
          rotate_left
          focus (intro wq hq; have k0 := hq.cell r0 (by simp); have k1 := hq.cell r1 (by simp); go_simp; try with_reducible rfl)
          simp only [Act.put, List.getElem_toArray, List.getElem_cons_succ, List.getElem_cons_zero, List.setIfInBounds_toArray, List.set_cons_zero, List.set_cons_succ]
          refine wpAnyH_take (i := 11) (v := ?_) rfl (by kernel_rfl) (by kernel_rfl) (by kernel_rfl) (fun _ _ _ h => h) (Or.inl ⟨by rfl, ?_⟩) hHeld ?_
          rotate_left
          focus (intro wq hq; have k0 := hq.cell r0 (by simp); have k1 := hq.cell r1 (by simp); go_simp; try with_reducible rfl)
          simp only [Act.put, List.getElem_toArray, List.getElem_cons_succ, List.getElem_cons_zero, List.setIfInBounds_toArray, List.set_cons_zero, List.set_cons_succ]
          refine wpAnyH_ready (rs := [10]) (by kernel_rfl) (by simp) ?_
          refine AllReadyH.cons rfl (fun K hK => ?_) AllReadyH.nil
          go_simp
          refine (implCountStmts_any p _ _ _ _ _ (HQ.out.2.2.1.gr0 (HGk.out.trans0 hHeld)) (HQ.out.2.2.2.gr0 (HGk.out.trans0 hHeld)) (by omega) (by omega)).mono ?_
          rintro e w8 ⟨rfl, hg8⟩
          try dsimp only
          refine hK.out _ _ (hHeld.trans0 hg8) (fun hHeld => ?_)
          clear hK K
          try simp only [Act.put, List.getElem_toArray, List.getElem_cons_succ, List.getElem_cons_zero, List.setIfInBounds_toArray, List.set_cons_zero, List.set_cons_succ]
          refine wpAnyH_ready (rs := [12]) (by kernel_rfl) (by simp) ?_
          refine AllReadyH.cons rfl (fun K hK => ?_) AllReadyH.nil
          go_simp
          refine (implCountChoices_any p _ _ _ _ _ (HQ.out.2.2.1.gr0 (HGk.out.trans0 hHeld)) (HQ.out.2.2.2.gr0 (HGk.out.trans0 hHeld)) (by omega) (by omega)).mono ?_
          rintro e w8 ⟨rfl, hg8⟩
          rw [← HM.out]
          try dsimp only
          refine hK.out _ _ (hHeld.trans0 hg8) (fun hHeld => ?_)
          clear hK K
          try simp only [Act.put, List.getElem_toArray, List.getElem_cons_succ, List.getElem_cons_zero, List.setIfInBounds_toArray, List.set_cons_zero, List.set_cons_succ]
          refine wpAnyH_take (i := 13) (v := ?_) rfl (by kernel_rfl) (by kernel_rfl) (by kernel_rfl) (fun _ _ _ h => h) (Or.inl ⟨by rfl, ?_⟩) hHeld ?_
          rotate_left
          focus (intro wq hq; clear hq; go_simp; try with_reducible rfl)
          simp only [Act.put, List.getElem_toArray, List.getElem_cons_succ, List.getElem_cons_zero, List.setIfInBounds_toArray, List.set_cons_zero, List.set_cons_succ]
          refine wpAnyH_take (i := 14) (v := ?_) rfl (by kernel_rfl) (by kernel_rfl) (by kernel_rfl) (fun _ _ _ h => h) (Or.inl ⟨by rfl, ?_⟩) hHeld ?_
          rotate_left
          focus (intro wq hq; clear hq; go_simp; try with_reducible rfl)
          simp only [Act.put, List.getElem_toArray, List.getElem_cons_succ, List.getElem_cons_zero, List.setIfInBounds_toArray, List.set_cons_zero, List.set_cons_succ]
          refine wpAnyH_take (i := 15) (v := ?_) rfl (by kernel_rfl) (by kernel_rfl) (by kernel_rfl) (fun _ _ _ h => h) (Or.inl ⟨by rfl, ?_⟩) hHeld ?_
          rotate_left
          focus (intro wq hq; clear hq; go_simp; try with_reducible rfl)
          simp only [Act.put, List.getElem_toArray, List.getElem_cons_succ, List.getElem_cons_zero, List.setIfInBounds_toArray, List.set_cons_zero, List.set_cons_succ]
          refine wpAnyH_take (i := 16) (v := ?_) rfl (by kernel_rfl) (by kernel_rfl) (by kernel_rfl) (fun _ _ _ h => h) (Or.inl ⟨by rfl, ?_⟩) hHeld ?_
          rotate_left
          focus (intro wq hq; clear hq; go_simp; try with_reducible rfl)
          simp only [Act.put, List.getElem_toArray, List.getElem_cons_succ, List.getElem_cons_zero, List.setIfInBounds_toArray, List.set_cons_zero, List.set_cons_succ]
          refine wpAnyH_take (i := 17) (v := ?_) rfl (by kernel_rfl) (by kernel_rfl) (by kernel_rfl) (fun _ _ _ h => h) (Or.inl ⟨by rfl, ?_⟩) hHeld ?_
          rotate_left
          focus (intro wq hq; clear hq; go_simp; try with_reducible rfl)
          simp only [Act.put, List.getElem_toArray, List.getElem_cons_succ, List.getElem_cons_zero, List.setIfInBounds_toArray, List.set_cons_zero, List.set_cons_succ]
          refine wpAnyH_done (by kernel_rfl) ?_ _
          go_wp2_with fail
          go_ret
          exact ⟨rfl, HG.out.trans0 (HGk.out.trans0 hHeld)⟩
end Go.Proofs.Ytadidppbhpdnkaa

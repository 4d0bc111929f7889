/- The law FnRunPath: the walk of the law's own function. -/
import Derived.Test.YtadidppbhpdnkaaG3

import Derived.Test.YtadidppbhpdnkaaB19

import Derived.Test.YtadidppbhpdnkaaW3

import Derived.Test.YtadidppbhpdnkaaZ3

namespace Go.Proofs.Ytadidppbhpdnkaa

open Go.RowKit

theorem bcIn_nat (l : List Nat) (t : Nat) (a : Option Addr) (c : Nat) (w : World) (ha : InAt w Any (zs l) a) (hl : l.length ≤ 1048576) (ht : t ∈ l) :
    Calls Try.prog 27 #[.slice a l.length c, .int .i64 t] w fun e w' => e = .returned (.bool true) ∧ Gr w w' none := by
  have e : (zs l).length = l.length := by simp [zs]
  have e2 : decide ((t : Int) ∈ zs l) = true := decide_eq_true (by unfold zs; simp; exact ⟨t, ht, rfl⟩)
  rw [← e, ← e2]
  exact bcIn_any (zs l) t a c w ha (by omega)

set_option maxRecDepth 100000 in
set_option maxHeartbeats 4000000 in
theorem fnRunPath_walk (a : Option Addr) (n c : Nat) (w : World) (h : BytesIn w a n) (hc : n ≤ c) (hm : n ≤ maxLen) :
    Calls Try.prog 7 #[.slice a n c] w fun e w' => e = .returned (.bool true) ∧ Gr w w' none := by
  unfold maxLen at hm
  by_cases hbig : 1048576 < n
  · go_enter Try.func7, Try.ntmps7
    go_wp2
    go_ret
    exact ⟨rfl, Gr.refl _ _⟩
  · go_enter Try.func7, Try.ntmps7
    go_wp2_with fail
    refine (runD_any a n c w h hc (by omega)).mono ?_
    rintro e w1 ⟨p, v0, v1, cs, ac, cc, tg, rfl, ⟨at', ab, ct, cb, rfl, rfl, hT, hB, ht, hcn⟩, hC, hcc, hc8, hk1, hk2, hg1⟩
    have hlb := count_length p.body
    have hQ := PrIn.new (ct := ct) (cb := cb) hT hB
    have hgA := hg1.alloc (.cells #[.slice at' p.types.length ct, .slice ab p.body.length cb] 26)
    have hCA : ∀ o, InAt (w1.alloc o) Any cs ac := fun o => (hC.mono (fun _ _ _ => trivial) (fun _ _ _ _ h => h)).gr0 ((Gr.refl _ _).alloc _)
    clear hC
    clear hT hB hg1 h
    go_wp2_with fail
    obtain ⟨wA, hwA⟩ : ∃ wA : World, wA = w1.alloc (.cells #[.slice at' p.types.length ct, .slice ab p.body.length cb] 26) := ⟨_, rfl⟩
    have HC := Lib.hid (show InAt wA Any cs ac from by rw [hwA]; exact hCA _)
    clear hCA
    rw [← hwA] at hQ hgA ⊢
    clear hwA
    have HQ := Lib.hid hQ
    have HG := Lib.hid hgA
    have q0 := hQ.1
    have q1 := hQ.2.1
    clear hQ hgA
    obtain ⟨R, hR⟩ : ∃ R, (runOf p cs tg).1 = R := ⟨_, rfl⟩
    obtain ⟨B, hB⟩ : ∃ B, (runOf p cs tg).2 = B := ⟨_, rfl⟩
    have HR := Lib.hid hR
    have HB := Lib.hid hB
    have hRl : (zs R).length ≤ 1048576 := by rw [zs_length, ← hR]; have := runOf_len p cs tg; omega
    clear hR hB
    refine (implRunPath_any p cs tg _ _ _ _ _ _ _ HQ.out.2.2.1 HQ.out.2.2.2 (by omega) (by omega) HC.out hcc (by omega)).mono ?_
    rw [HR.out, HB.out]
    rintro e w2 ⟨a2, c2, rfl, hI, -, -, hg, -⟩
    replace HQ := Lib.hid (HQ.out.gr hg)
    replace HG := Lib.hid (HG.out.trans0 hg)
    replace q0 := HQ.out.1
    replace q1 := HQ.out.2.1
    replace HC := Lib.hid (HC.out.gr0 hg)
    have HL := Lib.hid (hI)
    clear hI hg
    go_wp2_with fail
    refine (specRunPath_any p cs tg _ _ _ _ _ _ _ HQ.out.2.2.1 HQ.out.2.2.2 (by omega) (by omega) HC.out (by omega)).mono ?_
    rw [HR.out, HB.out]
    rintro e w3 ⟨a3, c3, rfl, hI, -, -, hg, -⟩
    replace HQ := Lib.hid (HQ.out.gr hg)
    replace HG := Lib.hid (HG.out.trans0 hg)
    replace q0 := HQ.out.1
    replace q1 := HQ.out.2.1
    replace HC := Lib.hid (HC.out.gr0 hg)
    replace HL := Lib.hid (HL.out.gr0 hg)
    have HS := Lib.hid (hI)
    clear hI hg
    go_wp2_with fail
    refine (bcInts_same (zs R) _ _ _ _ _ HL.out HS.out hRl).mono ?_
    rintro e w4 ⟨rfl, hg⟩
    replace HQ := Lib.hid (HQ.out.gr hg)
    replace HG := Lib.hid (HG.out.trans0 hg)
    replace q0 := HQ.out.1
    replace q1 := HQ.out.2.1
    replace HC := Lib.hid (HC.out.gr0 hg)
    replace HL := Lib.hid (HL.out.gr0 hg)
    replace HS := Lib.hid (HS.out.gr0 hg)
    clear hg
    by_cases hz : (zs R).length = 0
    · have hz' : (((zs R).length : Int) == 0) = true := by rw [hz]; rfl
      clear hz
      go_wp2_with fail
      refine (bcInts_same (zs R) _ _ _ _ _ HL.out HS.out hRl).mono ?_
      rintro e w5 ⟨rfl, hg⟩
      replace HQ := Lib.hid (HQ.out.gr hg)
      replace HG := Lib.hid (HG.out.trans0 hg)
      replace q0 := HQ.out.1
      replace q1 := HQ.out.2.1
      replace HC := Lib.hid (HC.out.gr0 hg)
      replace HL := Lib.hid (HL.out.gr0 hg)
      replace HS := Lib.hid (HS.out.gr0 hg)
      clear hg
      go_wp2_with fail
      go_ret
      exact ⟨by simp, HG.out⟩
    · have hz' : (((zs R).length : Int) == 0) = false := beq_eq_false_iff_ne.2 (by omega)
      have hpos : 0 < R.length := by rw [zs_length] at hz; omega
      clear hz
      go_wp2_with fail
      refine (implPointsOf_any p  _ _ _ _ _ HQ.out.2.2.1 HQ.out.2.2.2 (by omega) (by omega)).mono ?_
      rintro e w5 ⟨M, a5, c5, hM, rfl, hP, hg⟩
      replace HQ := Lib.hid (HQ.out.gr hg)
      replace HG := Lib.hid (HG.out.trans0 hg)
      replace q0 := HQ.out.1
      replace q1 := HQ.out.2.1
      replace HC := Lib.hid (HC.out.gr0 hg)
      replace HL := Lib.hid (HL.out.gr0 hg)
      replace HS := Lib.hid (HS.out.gr0 hg)
      have HP := Lib.hid (hP.read)
      have HM := Lib.hid (hM)
      clear hM hP hg
      have hMl : M.length ≤ 61 := by rw [HM.out]; exact ptsOf_le p
      have hzl := zs_length R
      go_wp2_with fail
      go_loopw [11] (fun i wr => ∃ m : Nat, 1 ≤ m ∧ m ≤ R.length ∧ i = .int .i64 m ∧ Gr w5 wr none) (fun i _ => R.length - (intOf i).toNat)
      case atStart => exact ⟨1, by omega, by omega, rfl, Gr.refl _ _⟩
      case round =>
        obtain ⟨m, hm1, hm, rfl, hg⟩ := hrel
        have HGm := Lib.hid hg
        by_cases hlt : m < R.length
        · obtain ⟨b1, o1, rfl, -, e1⟩ := (HL.out.gr0 hg).at (i := m) (by omega)
          obtain ⟨b2, o2, eb, -, e2⟩ := (HL.out.gr0 hg).at (i := m - 1) (by omega)
          cases eb
          rw [zs_get] at e1 e2
          obtain ⟨y1, hy1⟩ : ∃ y1, R[m] = y1 := ⟨_, rfl⟩
          obtain ⟨y2, hy2⟩ : ∃ y2, R[m - 1] = y2 := ⟨_, rfl⟩
          have hat := runOf_at HR.out (i := m - 1) (by omega)
          have hy1' : R[m - 1 + 1]'(by omega) = y1 := by rw [← hy1]; congr 1; omega
          rw [hy2, ← HM.out] at hat
          have hin := hat.2 (by omega)
          rw [hy1'] at hin
          have hyl := hat.1
          rw [hy1] at e1
          rw [hy2] at e2
          obtain ⟨b3, o3, rfl, hpt⟩ := (HP.out.gr hg) y2 hyl
          rw [ptAt_get hyl] at hin
          obtain ⟨q, hq⟩ : ∃ q, M[y2] = q := ⟨_, rfl⟩
          rw [hq] at hpt hin
          have hnl : q.next.length ≤ 1048576 := ptsOf_small HM.out q (hq ▸ List.getElem_mem hyl)
          have HIN := Lib.hid hin
          obtain ⟨an, cn, -, -, -, -, f4, fI, hcn⟩ := hpt
          have HCI := Lib.hid fI
          have hw : IntKind.i64.wrap ((m : Int) - 1) = ((m - 1 : Nat) : Int) := by rw [IntWalk.i64_in _ (by omega)]; omega
          have hml : m - 1 < R.length := by omega
          clear hy1 hy2 hy1' hat hin hq fI hg
          go_upto_region 12 with fail
          refine wp_region_held_drew (S := fun w' => Gr wr w' none) (by kernel_rfl) ((Gr.refl _ _).drew) (fun hHeld => ?_)
          refine wpAnyH_take (i := 0) (v := ?_) rfl (by kernel_rfl) (by kernel_rfl) (by kernel_rfl) (fun _ _ _ h => h) (Or.inl ⟨by rfl, ?_⟩) hHeld ?_
          rotate_left
          focus (intro wq hq; clear hq; go_simp; try with_reducible rfl)
          simp only [Act.put, List.getElem_toArray, List.getElem_cons_zero, List.setIfInBounds_toArray, List.set_cons_zero, List.set_cons_succ]
          refine wpAnyH_take (i := 1) (v := ?_) rfl (by kernel_rfl) (by kernel_rfl) (by kernel_rfl) (fun _ _ _ h => h) (Or.inl ⟨by rfl, ?_⟩) hHeld ?_
          rotate_left
          focus (intro wq hq; clear hq; go_simp; try with_reducible rfl)
          simp only [Act.put, List.getElem_toArray, List.getElem_cons_succ, List.getElem_cons_zero, List.setIfInBounds_toArray, List.set_cons_zero, List.set_cons_succ]
          refine wpAnyH_take (i := 2) (v := ?_) rfl (by kernel_rfl) (by kernel_rfl) (by kernel_rfl) (fun _ _ _ h => h) (Or.inl ⟨by rfl, ?_⟩) hHeld ?_
          rotate_left
          focus (intro wq hq; clear hq; go_simp; try with_reducible rfl)
          simp only [Act.put, List.getElem_toArray, List.getElem_cons_succ, List.getElem_cons_zero, List.setIfInBounds_toArray, List.set_cons_zero, List.set_cons_succ]
          refine wpAnyH_take (i := 3) (v := ?_) rfl (by kernel_rfl) (by kernel_rfl) (by kernel_rfl) (fun _ _ _ h => h) (Or.inl ⟨by rfl, ?_⟩) hHeld ?_
          rotate_left
          focus (intro wq hq; clear hq; go_simp; try with_reducible rfl)
          simp only [Act.put, List.getElem_toArray, List.getElem_cons_succ, List.getElem_cons_zero, List.setIfInBounds_toArray, List.set_cons_zero, List.set_cons_succ]
          refine wpAnyH_take (i := 4) (v := ?_) rfl (by kernel_rfl) (by kernel_rfl) (by kernel_rfl) (fun _ _ _ h => h) (Or.inl ⟨by rfl, ?_⟩) hHeld ?_
          rotate_left
          focus (intro wq hq; clear hq; go_simp; try with_reducible rfl)
          simp only [Act.put, List.getElem_toArray, List.getElem_cons_succ, List.getElem_cons_zero, List.setIfInBounds_toArray, List.set_cons_zero, List.set_cons_succ]
          refine wpAnyH_take (i := 5) (v := ?_) rfl (by kernel_rfl) (by kernel_rfl) (by kernel_rfl) (fun _ _ _ h => h) (Or.inl ⟨by rfl, ?_⟩) hHeld ?_
          rotate_left
          focus (intro wq hq; have k0 := hq.cell e2 (by simp); go_simp; try with_reducible rfl)
          simp only [Act.put, List.getElem_toArray, List.getElem_cons_succ, List.getElem_cons_zero, List.setIfInBounds_toArray, List.set_cons_zero, List.set_cons_succ]
          refine wpAnyH_take (i := 6) (v := ?_) rfl (by kernel_rfl) (by kernel_rfl) (by kernel_rfl) (fun _ _ _ h => h) (Or.inl ⟨by rfl, ?_⟩) hHeld ?_
          rotate_left
          focus (intro wq hq; clear hq; go_simp; try with_reducible rfl)
          simp only [Act.put, List.getElem_toArray, List.getElem_cons_succ, List.getElem_cons_zero, List.setIfInBounds_toArray, List.set_cons_zero, List.set_cons_succ]
          refine wpAnyH_take (i := 7) (v := ?_) rfl (by kernel_rfl) (by kernel_rfl) (by kernel_rfl) (fun _ _ _ h => h) (Or.inl ⟨by rfl, ?_⟩) hHeld ?_
          rotate_left
          focus (intro wq hq; clear hq; go_simp; try with_reducible rfl)
          simp only [Act.put, List.getElem_toArray, List.getElem_cons_succ, List.getElem_cons_zero, List.setIfInBounds_toArray, List.set_cons_zero, List.set_cons_succ]
          refine wpAnyH_take (i := 8) (v := ?_) rfl (by kernel_rfl) (by kernel_rfl) (by kernel_rfl) (fun _ _ _ h => h) (Or.inl ⟨by rfl, ?_⟩) hHeld ?_
          rotate_left
          focus (intro wq hq; have k0 := hq.cell f4 (by simp); go_simp; try with_reducible rfl)
          simp only [Act.put, List.getElem_toArray, List.getElem_cons_succ, List.getElem_cons_zero, List.setIfInBounds_toArray, List.set_cons_zero, List.set_cons_succ]
          refine wpAnyH_take (i := 9) (v := ?_) rfl (by kernel_rfl) (by kernel_rfl) (by kernel_rfl) (fun _ _ _ h => h) (Or.inl ⟨by rfl, ?_⟩) hHeld ?_
          rotate_left
          focus (intro wq hq; clear hq; go_simp; try with_reducible rfl)
          simp only [Act.put, List.getElem_toArray, List.getElem_cons_succ, List.getElem_cons_zero, List.setIfInBounds_toArray, List.set_cons_zero, List.set_cons_succ]
          refine wpAnyH_take (i := 10) (v := ?_) rfl (by kernel_rfl) (by kernel_rfl) (by kernel_rfl) (fun _ _ _ h => h) (Or.inl ⟨by rfl, ?_⟩) hHeld ?_
          rotate_left
          focus (intro wq hq; clear hq; go_simp; try with_reducible rfl)
          simp only [Act.put, List.getElem_toArray, List.getElem_cons_succ, List.getElem_cons_zero, List.setIfInBounds_toArray, List.set_cons_zero, List.set_cons_succ]
          refine wpAnyH_take (i := 11) (v := ?_) rfl (by kernel_rfl) (by kernel_rfl) (by kernel_rfl) (fun _ _ _ h => h) (Or.inl ⟨by rfl, ?_⟩) hHeld ?_
          rotate_left
          focus (intro wq hq; clear hq; go_simp; try with_reducible rfl)
          simp only [Act.put, List.getElem_toArray, List.getElem_cons_succ, List.getElem_cons_zero, List.setIfInBounds_toArray, List.set_cons_zero, List.set_cons_succ]
          refine wpAnyH_take (i := 12) (v := ?_) rfl (by kernel_rfl) (by kernel_rfl) (by kernel_rfl) (fun _ _ _ h => h) (Or.inl ⟨by rfl, ?_⟩) hHeld ?_
          rotate_left
          focus (intro wq hq; have k0 := hq.cell e1 (by simp); go_simp; try with_reducible rfl)
          simp only [Act.put, List.getElem_toArray, List.getElem_cons_succ, List.getElem_cons_zero, List.setIfInBounds_toArray, List.set_cons_zero, List.set_cons_succ]
          refine wpAnyH_ready (rs := [13]) (by kernel_rfl) (by simp) ?_
          refine AllReadyH.cons rfl (fun K hK => ?_) AllReadyH.nil
          go_simp
          refine (bcIn_nat q.next y1 an cn _ (HCI.out.gr0 hHeld) hnl HIN.out).mono ?_
          rintro e w8 ⟨rfl, hg8⟩
          try dsimp only
          refine hK.out _ _ (hHeld.trans0 hg8) (fun hHeld => ?_)
          clear hK K
          try simp only [Act.put, List.getElem_toArray, List.getElem_cons_succ, List.getElem_cons_zero, List.setIfInBounds_toArray, List.set_cons_zero, List.set_cons_succ]
          refine wpAnyH_take (i := 14) (v := ?_) rfl (by kernel_rfl) (by kernel_rfl) (by kernel_rfl) (fun _ _ _ h => h) (Or.inl ⟨by rfl, ?_⟩) hHeld ?_
          rotate_left
          focus (intro wq hq; clear hq; go_simp; try with_reducible rfl)
          simp only [Act.put, List.getElem_toArray, List.getElem_cons_succ, List.getElem_cons_zero, List.setIfInBounds_toArray, List.set_cons_zero, List.set_cons_succ]
          refine wpAnyH_done (by kernel_rfl) ?_ _
          go_wp2_with fail
          go_roundw
          case rel => exact ⟨m + 1, by omega, by omega, by go_num, HGm.out.trans0 hHeld⟩
          case measure => simp [intOf]; omega
        · obtain rfl : m = R.length := by omega
          obtain ⟨b1, o1, rfl, -, e1⟩ := (HL.out.gr0 hg).at (i := 0) (by omega)
          obtain ⟨b2, o2, eb, -, e2⟩ := (HL.out.gr0 hg).at (i := R.length - 1) (by omega)
          cases eb
          rw [zs_get] at e1 e2
          rw [runOf_first HR.out hpos] at e1
          obtain ⟨hend, hmost⟩ := runOf_end HR.out HB.out hpos
          obtain ⟨y2, hy2⟩ : ∃ y2, R[R.length - 1]'(by omega) = y2 := ⟨_, rfl⟩
          rw [hy2] at e2 hend
          rw [← HM.out] at hend
          replace e1 : wr.cell? ⟨b1, o1, none⟩ = some (.int .i64 (0 : Int)) := by simpa using e1
          have hw : IntKind.i64.wrap ((R.length : Int) - 1) = ((R.length - 1 : Nat) : Int) := by rw [IntWalk.i64_in _ (by omega)]; omega
          have hw2 : IntKind.i64.wrap ((M.length : Int) - 1) = (M.length : Int) - 1 := IntWalk.i64_in _ (by omega)
          have hml : R.length - 1 < R.length := by omega
          have HEND := Lib.hid hend
          have HMO := Lib.hid hmost
          clear hy2 hend hmost hg
          cases B with
          | true =>
            have hq2 : ((y2 : Int) == (M.length : Int) - 1) = true := beq_iff_eq.2 (by have := HEND.out.2 rfl; omega)
            go_wp2_with fail
            go_ret
            exact ⟨rfl, HG.out.trans0 HGm.out⟩
          | false =>
            have hq2 : ((y2 : Int) == (M.length : Int) - 1) = false := beq_eq_false_iff_ne.2 (fun h => by have := HEND.out.1 (by omega); cases this)
            have hq3 : ((R.length : Int) == tg) = true := beq_iff_eq.2 (by have := HMO.out rfl; omega)
            go_wp2_with fail
            go_ret
            exact ⟨rfl, HG.out.trans0 HGm.out⟩
end Go.Proofs.Ytadidppbhpdnkaa

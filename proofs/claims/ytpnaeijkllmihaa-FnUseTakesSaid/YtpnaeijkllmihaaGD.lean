/- The law FnUseTakes: the walk of the law's own function. -/
import Derived.Test.YtpnaeijkllmihaaG3

import Derived.Test.YtpnaeijkllmihaaB18

import Derived.Test.YtpnaeijkllmihaaU2

import Derived.Test.YtpnaeijkllmihaaY4

namespace Go.Proofs.Ytpnaeijkllmihaa

open Go.RowKit

set_option maxRecDepth 100000 in
set_option maxHeartbeats 4000000 in
theorem fnUseTakes_walk (a : Option Addr) (n c : Nat) (w : World) (h : BytesIn w a n) (hc : n ≤ c) (hm : n ≤ maxLen) :
    Calls Try.prog 5 #[.slice a n c] w fun e w' => e = .returned (.bool true) ∧ Gr w w' none := by
  unfold maxLen at hm
  by_cases hbig : 1048576 < n
  · go_enter Try.func5, Try.ntmps5
    go_wp2
    go_ret
    exact ⟨rfl, Gr.refl _ _⟩
  · go_enter Try.func5, Try.ntmps5
    go_wp2_with fail
    refine (useOfD_any a n c w h hc (by omega)).mono ?_
    rintro e w1 ⟨p, v0, v1, ta, tb, rfl, ⟨at', ab, ct, cb, rfl, rfl, hT, hB, ht, hcn⟩, hk1, hk2, hk3, hk4, hg1⟩
    have hlb := count_length p.body
    have hQ := PrIn.new (ct := ct) (cb := cb) hT hB
    have hgA := hg1.alloc (.cells #[.slice at' p.types.length ct, .slice ab p.body.length cb] 26)
    clear hT hB hg1 h
    go_upto_region 4 with fail
    obtain ⟨wA, hwA⟩ : ∃ wA : World, wA = w1.alloc (.cells #[.slice at' p.types.length ct, .slice ab p.body.length cb] 26) := ⟨_, rfl⟩
    rw [← hwA] at hQ hgA ⊢
    clear hwA
    have HQ := Lib.hid hQ
    have HG := Lib.hid hgA
    have q0 := hQ.1
    have q1 := hQ.2.1
    clear hQ hgA
    obtain ⟨U, hU⟩ : ∃ U, useOf p ta tb = U := ⟨_, rfl⟩
    have HU := Lib.hid hU
    clear hU
    go_cut [25] (fun s wx => s = .bool false ∧ Gr wA wx none)
    case first =>
      refine wp_region_held_drew (S := fun w' => Gr wA w' none) (by kernel_rfl) ((Gr.refl _ _).drew) (fun hHeld => ?_)
      refine wpAnyH_take (i := 0) (v := ?_) rfl (by kernel_rfl) (by kernel_rfl) (by kernel_rfl) (fun _ _ _ h => h) (Or.inl ⟨by rfl, ?_⟩) hHeld ?_
      rotate_left
      focus (intro wq hq; have r0 := hq.cell q0 (by simp); have r1 := hq.cell q1 (by simp); go_simp; try with_reducible rfl)
      simp only [Act.put, List.getElem_toArray, List.getElem_cons_zero, List.setIfInBounds_toArray, List.set_cons_zero, List.set_cons_succ]
      refine wpAnyH_take (i := 1) (v := ?_) rfl (by kernel_rfl) (by kernel_rfl) (by kernel_rfl) (fun _ _ _ h => h) (Or.inl ⟨by rfl, ?_⟩) hHeld ?_
      rotate_left
      focus (intro wq hq; clear hq; go_simp; try with_reducible rfl)
      simp only [Act.put, List.getElem_toArray, List.getElem_cons_succ, List.getElem_cons_zero, List.setIfInBounds_toArray, List.set_cons_zero, List.set_cons_succ]
      refine wpAnyH_take (i := 2) (v := ?_) rfl (by kernel_rfl) (by kernel_rfl) (by kernel_rfl) (fun _ _ _ h => h) (Or.inl ⟨by rfl, ?_⟩) hHeld ?_
      rotate_left
      focus (intro wq hq; clear hq; go_simp; try with_reducible rfl)
      simp only [Act.put, List.getElem_toArray, List.getElem_cons_succ, List.getElem_cons_zero, List.setIfInBounds_toArray, List.set_cons_zero, List.set_cons_succ]
      refine wpAnyH_take (i := 4) (v := ?_) rfl (by kernel_rfl) (by kernel_rfl) (by kernel_rfl) (fun _ _ _ h => h) (Or.inl ⟨by rfl, ?_⟩) hHeld ?_
      rotate_left
      focus (intro wq hq; have r0 := hq.cell q0 (by simp); have r1 := hq.cell q1 (by simp); go_simp; try with_reducible rfl)
      simp only [Act.put, List.getElem_toArray, List.getElem_cons_succ, List.getElem_cons_zero, List.setIfInBounds_toArray, List.set_cons_zero, List.set_cons_succ]
      refine wpAnyH_take (i := 5) (v := ?_) rfl (by kernel_rfl) (by kernel_rfl) (by kernel_rfl) (fun _ _ _ h => h) (Or.inl ⟨by rfl, ?_⟩) hHeld ?_
      rotate_left
      focus (intro wq hq; clear hq; go_simp; try with_reducible rfl)
      simp only [Act.put, List.getElem_toArray, List.getElem_cons_succ, List.getElem_cons_zero, List.setIfInBounds_toArray, List.set_cons_zero, List.set_cons_succ]
      refine wpAnyH_take (i := 6) (v := ?_) rfl (by kernel_rfl) (by kernel_rfl) (by kernel_rfl) (fun _ _ _ h => h) (Or.inl ⟨by rfl, ?_⟩) hHeld ?_
      rotate_left
      focus (intro wq hq; clear hq; go_simp; try with_reducible rfl)
      simp only [Act.put, List.getElem_toArray, List.getElem_cons_succ, List.getElem_cons_zero, List.setIfInBounds_toArray, List.set_cons_zero, List.set_cons_succ]
      refine wpAnyH_ready (rs := [3]) (by kernel_rfl) (by simp) ?_
      refine AllReadyH.cons rfl (fun K hK => ?_) AllReadyH.nil
      go_simp
      refine (implUseOf_any p ta tb _ _ _ _ _ (HQ.out.2.2.1.gr0 hHeld) (HQ.out.2.2.2.gr0 hHeld) (by omega) (by omega)).mono ?_
      rintro e w8 ⟨rfl, hg8⟩
      rw [HU.out]
      try dsimp only
      refine hK.out _ _ (hHeld.trans0 hg8) (fun hHeld => ?_)
      clear hK K
      try simp only [Act.put, List.getElem_toArray, List.getElem_cons_succ, List.getElem_cons_zero, List.setIfInBounds_toArray, List.set_cons_zero, List.set_cons_succ]
      refine wpAnyH_ready (rs := [7]) (by kernel_rfl) (by simp) ?_
      refine AllReadyH.cons rfl (fun K hK => ?_) AllReadyH.nil
      go_simp
      refine (specUseOf_any p ta tb _ _ _ _ _ (HQ.out.2.2.1.gr0 hHeld) (HQ.out.2.2.2.gr0 hHeld) (by omega) (by omega)).mono ?_
      rintro e w8 ⟨rfl, hg8⟩
      rw [HU.out]
      try dsimp only
      refine hK.out _ _ (hHeld.trans0 hg8) (fun hHeld => ?_)
      clear hK K
      try simp only [Act.put, List.getElem_toArray, List.getElem_cons_succ, List.getElem_cons_zero, List.setIfInBounds_toArray, List.set_cons_zero, List.set_cons_succ]
      refine wpAnyH_take (i := 8) (v := ?_) rfl (by kernel_rfl) (by kernel_rfl) (by kernel_rfl) (fun _ _ _ h => h) (Or.inl ⟨by rfl, ?_⟩) hHeld ?_
      rotate_left
      focus (intro wq hq; clear hq; go_simp; try with_reducible rfl)
      simp only [Act.put, List.getElem_toArray, List.getElem_cons_succ, List.getElem_cons_zero, List.setIfInBounds_toArray, List.set_cons_zero, List.set_cons_succ]
      refine wpAnyH_done (by kernel_rfl) ?_ _
      go_wp2_with fail
      go_meet
      exact ⟨by simp, hHeld⟩
    case rest =>
      rename World => wx
      obtain ⟨rfl, hgx⟩ := hcut
      have HX := Lib.hid hgx
      replace q0 := hgx.cell q0 (by simp)
      replace q1 := hgx.cell q1 (by simp)
      clear hgx
      go_wp2_with fail
      go_loopw [6, 7] (fun v i wr => ∃ k m : Nat, k ≤ p.types.length ∧ i = .int .i64 k ∧ v = .int .i64 m ∧ m ≤ 1 ∧ (m = 1 → ∃ j : Nat, j < k ∧ useOf p ta j = 2) ∧ Gr wx wr none) (fun _ i _ => p.types.length - (intOf i).toNat)
      case atStart => exact ⟨0, 0, Nat.zero_le _, rfl, rfl, by omega, fun h => by omega, Gr.refl _ _⟩
      case round =>
        obtain ⟨k, m, hk, rfl, rfl, hm, hT, hg⟩ := hrel
        have HT := Lib.hid hT
        have HGk := Lib.hid (HX.out.trans0 hg)
        have r0 := hg.cell q0 (by simp)
        have r1 := hg.cell q1 (by simp)
        have HGx := Lib.hid hg
        clear hT hg
        by_cases hlt : k < p.types.length
        · go_wp2_with fail
          refine (implUseOf_any p ta k _ _ _ _ _ (HQ.out.2.2.1.gr0 HGk.out) (HQ.out.2.2.2.gr0 HGk.out) (by omega) (by omega)).mono ?_
          rintro e w9 ⟨rfl, hg9⟩
          have HG9 := Lib.hid (HGx.out.trans0 hg9)
          have s0 := hg9.cell r0 (by simp)
          have s1 := hg9.cell r1 (by simp)
          obtain ⟨b1, o1, rfl, -, e1⟩ := (HQ.out.2.2.1.gr0 (HGk.out.trans0 hg9)).at hlt
          clear hg9 r0 r1
          obtain ⟨u, hu⟩ : ∃ u, useOf p ta k = u := ⟨_, rfl⟩
          have HUk := Lib.hid hu
          rw [hu]
          clear hu
          by_cases h2 : u = 2
          · subst h2
            have HTY := Lib.hid (takes_type hlt HUk.out)
            have hm0 : m = 0 := by
              refine Classical.byContradiction fun h => ?_
              obtain ⟨j, hj, hj2⟩ := HT.out (by omega)
              have := takes_one hj2 HUk.out
              omega
            subst hm0
            obtain ⟨z, hz⟩ : ∃ z, p.types[k] = z := ⟨_, rfl⟩
            rw [hz] at e1
            have HTZ := Lib.hid (show z = 2 ∨ z = 4 from hz ▸ HTY.out)
            clear hz HTY hm
            rcases HTZ.out with rfl | rfl
            all_goals
              go_wp2_with fail
              go_roundw
              case rel => exact ⟨k + 1, 1, by omega, by go_num, by go_num, by omega, fun _ => ⟨k, by omega, HUk.out⟩, HG9.out⟩
              case measure => simp [intOf]; omega
          · have h2' : (u == 2) = false := beq_eq_false_iff_ne.2 h2
            clear h2
            go_wp2_with fail
            go_roundw
            case rel => exact ⟨k + 1, m, by omega, by go_num, rfl, hm, fun h => by obtain ⟨j, hj, hj2⟩ := HT.out h; exact ⟨j, by omega, hj2⟩, HG9.out⟩
            case measure => simp [intOf]; omega
        · go_wp2_with fail
          go_ret
          exact ⟨by first | rfl | (simp; omega), HG.out.trans0 HGk.out⟩
end Go.Proofs.Ytpnaeijkllmihaa

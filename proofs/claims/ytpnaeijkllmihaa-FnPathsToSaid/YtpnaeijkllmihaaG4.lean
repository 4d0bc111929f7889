/- The law FnPathsTo: the walk of the law's own function. For all bytes it returns true and writes nothing that was there. -/
import Derived.Test.YtpnaeijkllmihaaG3

namespace Go.Proofs.Ytpnaeijkllmihaa

open Go.RowKit

set_option maxRecDepth 100000 in
set_option maxHeartbeats 4000000 in
theorem fnPathsTo_walk (a : Option Addr) (n c : Nat) (w : World) (h : BytesIn w a n) (hc : n ≤ c) (hm : n ≤ maxLen) :
    Calls Try.prog 13 #[.slice a n c] w fun e w' => e = .returned (.bool true) ∧ Gr w w' none := by
  unfold maxLen at hm
  by_cases hbig : 1048576 < n
  · go_enter Try.func13, Try.ntmps13
    go_wp2
    go_ret
    exact ⟨rfl, Gr.refl _ _⟩
  · go_enter Try.func13, Try.ntmps13
    go_wp2_with fail
    refine (pathsTo_any a n c w h hc (by omega)).mono ?_
    rintro e w1 ⟨p, v0, v1, tg, rfl, ⟨at', ab, ct, cb, rfl, rfl, hT, hB, ht, hcn⟩, hk1, hk2, hg1⟩
    have hlb := count_length p.body
    have hQ := PrIn.new (ct := ct) (cb := cb) hT hB
    have hgA := hg1.alloc (.cells #[.slice at' p.types.length ct, .slice ab p.body.length cb] 26)
    go_wp2_with fail
    obtain ⟨wA, hwA⟩ : ∃ wA : World, wA = w1.alloc (.cells #[.slice at' p.types.length ct, .slice ab p.body.length cb] 26) := ⟨_, rfl⟩
    rw [← hwA] at hQ hgA ⊢
    clear hwA hT hB hg1 h
    refine (implPathsTo_any p tg _ _ _ _ _ hQ.2.2.1 hQ.2.2.2 (by omega) (by omega)).mono ?_
    rintro e w2 ⟨a2, c2, rfl, hI2, -, -, hg2⟩
    have hQ2 := hQ.gr hg2
    have hgB := hgA.trans0 hg2
    clear hQ hgA hg2
    obtain ⟨q0, q1, qT, qB⟩ := hQ2
    go_wp2_with fail
    refine (implPointsOf_any p _ _ _ _ _ qT qB (by omega) (by omega)).mono ?_
    rintro e w3 ⟨M, a3, c3, hM, rfl, hP3, hg3⟩
    have hI3 := hI2.gr0 hg3
    replace q0 := hg3.cell q0 (by simp)
    replace q1 := hg3.cell q1 (by simp)
    replace qT := qT.gr0 hg3
    replace qB := qB.gr0 hg3
    have hgC := hgB.trans0 hg3
    have hMl : M.length ≤ 1048576 := by rw [hM]; have := ptsOf_le p; omega
    have HM := Lib.hid hM
    clear hI2 hgB hg3 hP3 hM
    go_wp2_with fail
    refine (specPathsTo_any p tg _ _ _ _ _ qT qB (by omega) (by omega)).mono ?_
    rintro e w4 ⟨a4, c4, rfl, hI4, -, -, hg4⟩
    have hI5 := hI3.gr0 hg4
    replace q0 := hg4.cell q0 (by simp)
    replace q1 := hg4.cell q1 (by simp)
    replace qT := qT.gr0 hg4
    replace qB := qB.gr0 hg4
    have hgD := hgC.trans0 hg4
    have hLl : (pathsTo p tg).length ≤ 1048576 := pathsTo_len p tg
    clear hI3 hgC hg4
    go_wp2_with fail
    refine (bcInts_same (pathsTo p tg) _ _ _ _ _ hI5 hI4 hLl).mono ?_
    rintro e w5 ⟨rfl, hg5⟩
    have hI6 := hI5.gr0 hg5
    replace q0 := hg5.cell q0 (by simp)
    replace q1 := hg5.cell q1 (by simp)
    replace qT := qT.gr0 hg5
    replace qB := qB.gr0 hg5
    have hgE := hgD.trans0 hg5
    clear hI5 hI4 hgD hg5
    have QT := Lib.hid qT
    have QB := Lib.hid qB
    have HI6 := Lib.hid hI6
    have HGE := Lib.hid hgE
    clear qT qB hI6 hgE
    go_wp2_with fail
    go_loopw [7] (fun i wr => ∃ k : Nat, k ≤ M.length ∧ i = .int .i64 k ∧ Gr w5 wr none) (fun i _ => M.length - (intOf i).toNat)
    case atStart => exact ⟨0, Nat.zero_le _, rfl, Gr.refl _ _⟩
    case round =>
      obtain ⟨k, hk, rfl, hg⟩ := hrel
      by_cases hlt : k < M.length
      · have r0 := hg.cell q0 (by simp)
        have r1 := hg.cell q1 (by simp)
        have HG := Lib.hid hg
        have hlaw : decide ((k : Int) ∈ pathsTo p tg) = decide (tg ∈ pathsFrom p k) := decide_eq_decide.2 (pathsTo_law (by rw [← HM.out]; exact hlt))
        have HL := Lib.hid hlaw
        clear hlaw hg
        go_upto_region 11 with fail
        refine wp_region_held_drew (S := fun w' => Gr wr w' none) (by kernel_rfl) (Gr.refl _ _).drew (fun hHeld => ?_)
        refine wpAnyH_take (i := 0) (v := ?_) rfl (by kernel_rfl) (by kernel_rfl) (by kernel_rfl) (fun _ _ _ h => h) (Or.inl ⟨by rfl, ?_⟩) hHeld ?_
        rotate_left
        focus (intro wq hq; clear hq; go_simp; try with_reducible rfl)
        simp only [Act.put, List.getElem_toArray, List.getElem_cons_zero, List.setIfInBounds_toArray, List.set_cons_zero, List.set_cons_succ]
        refine wpAnyH_take (i := 1) (v := ?_) rfl (by kernel_rfl) (by kernel_rfl) (by kernel_rfl) (fun _ _ _ h => h) (Or.inl ⟨by rfl, ?_⟩) hHeld ?_
        rotate_left
        focus (intro wq hq; clear hq; go_simp; try with_reducible rfl)
        simp only [Act.put, List.getElem_toArray, List.getElem_cons_succ, List.getElem_cons_zero, List.setIfInBounds_toArray, List.set_cons_zero, List.set_cons_succ]
        refine wpAnyH_take (i := 3) (v := ?_) rfl (by kernel_rfl) (by kernel_rfl) (by kernel_rfl) (fun _ _ _ h => h) (Or.inl ⟨by rfl, ?_⟩) hHeld ?_
        rotate_left
        focus (intro wq hq; have k0 := Gr.cell hq r0 (by simp); have k1 := Gr.cell hq r1 (by simp); go_simp; try with_reducible rfl)
        simp only [Act.put, List.getElem_toArray, List.getElem_cons_succ, List.getElem_cons_zero, List.setIfInBounds_toArray, List.set_cons_zero, List.set_cons_succ]
        refine wpAnyH_take (i := 4) (v := ?_) rfl (by kernel_rfl) (by kernel_rfl) (by kernel_rfl) (fun _ _ _ h => h) (Or.inl ⟨by rfl, ?_⟩) hHeld ?_
        rotate_left
        focus (intro wq hq; clear hq; go_simp; try with_reducible rfl)
        simp only [Act.put, List.getElem_toArray, List.getElem_cons_succ, List.getElem_cons_zero, List.setIfInBounds_toArray, List.set_cons_zero, List.set_cons_succ]
        refine wpAnyH_take (i := 6) (v := ?_) rfl (by kernel_rfl) (by kernel_rfl) (by kernel_rfl) (fun _ _ _ h => h) (Or.inl ⟨by rfl, ?_⟩) hHeld ?_
        rotate_left
        focus (intro wq hq; clear hq; go_simp; try with_reducible rfl)
        simp only [Act.put, List.getElem_toArray, List.getElem_cons_succ, List.getElem_cons_zero, List.setIfInBounds_toArray, List.set_cons_zero, List.set_cons_succ]
        refine wpAnyH_ready (rs := [2]) (by kernel_rfl) (by simp) ?_
        refine AllReadyH.cons rfl (fun K hK => ?_) AllReadyH.nil
        go_simp
        refine (bcIn_any (pathsTo p tg) k _ _ _ (HI6.out.gr0 (HG.out.drew)) hLl).mono ?_
        rintro e w6 ⟨rfl, hg6⟩
        try dsimp only
        refine hK.out _ _ (Gr.trans0 (show Gr wr _ none from hHeld) hg6) (fun hHeld => ?_)
        clear hK K
        try simp only [Act.put, List.getElem_toArray, List.getElem_cons_succ, List.getElem_cons_zero, List.setIfInBounds_toArray, List.set_cons_zero, List.set_cons_succ]
        refine wpAnyH_ready (rs := [5]) (by kernel_rfl) (by simp) ?_
        refine AllReadyH.cons rfl (fun K hK => ?_) AllReadyH.nil
        go_simp
        refine (implPathsFrom_any p k _ _ _ _ _ (QT.out.gr0 (HG.out.drew.trans0 hg6)) (QB.out.gr0 (HG.out.drew.trans0 hg6)) (by omega) (by omega)).mono ?_
        rintro e w7 ⟨a7, c7, rfl, hI7, -, -, hg7⟩
        try dsimp only
        refine hK.out _ _ (Gr.trans0 (show Gr wr _ none from hHeld) hg7) (fun hHeld => ?_)
        clear hK K
        try simp only [Act.put, List.getElem_toArray, List.getElem_cons_succ, List.getElem_cons_zero, List.setIfInBounds_toArray, List.set_cons_zero, List.set_cons_succ]
        refine wpAnyH_ready (rs := [7]) (by kernel_rfl) (by simp) ?_
        refine AllReadyH.cons rfl (fun K hK => ?_) AllReadyH.nil
        go_simp
        refine (bcIn_any (pathsFrom p k) tg _ _ _ hI7 (pathsFrom_len p k)).mono ?_
        rintro e w8 ⟨rfl, hg8⟩
        try dsimp only
        refine hK.out _ _ (Gr.trans0 (show Gr wr _ none from hHeld) hg8) (fun hHeld => ?_)
        clear hK K
        try simp only [Act.put, List.getElem_toArray, List.getElem_cons_succ, List.getElem_cons_zero, List.setIfInBounds_toArray, List.set_cons_zero, List.set_cons_succ]
        refine wpAnyH_take (i := 8) (v := ?_) rfl (by kernel_rfl) (by kernel_rfl) (by kernel_rfl) (fun _ _ _ h => h) (Or.inl ⟨by rfl, ?_⟩) hHeld ?_
        rotate_left
        focus (intro wq hq; clear hq; go_simp; try with_reducible rfl)
        simp only [Act.put, List.getElem_toArray, List.getElem_cons_succ, List.getElem_cons_zero, List.setIfInBounds_toArray, List.set_cons_zero, List.set_cons_succ]
        refine wpAnyH_done (by kernel_rfl) ?_ _
        rw [HL.out]
        clear HL
        generalize decide (tg ∈ pathsFrom p k) = bb
        cases bb
        all_goals
          go_wp2_with fail
          go_roundw
          case rel => exact ⟨k + 1, by omega, by go_num, HG.out.trans0 hHeld⟩
          case measure => simp [intOf]; omega
      · go_wp2
        go_ret
        exact ⟨rfl, HGE.out.trans0 hg⟩
end Go.Proofs.Ytpnaeijkllmihaa

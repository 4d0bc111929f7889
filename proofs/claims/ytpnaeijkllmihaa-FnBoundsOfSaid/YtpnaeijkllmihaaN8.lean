/- The bounds of a program, in the program. -/
import Derived.Test.YtpnaeijkllmihaaN7

import Derived.Deep.RegionHeld3

namespace Go.Proofs.Ytpnaeijkllmihaa

open Go.RowKit

set_option maxRecDepth 100000 in
set_option maxHeartbeats 8000000 in
theorem bounds_any (p : Pr) (gb : Nat) (w : World) (hGA : GraphAt w p gb) (hv : validP p = true) :
    Calls Try.prog 81 #[.pointer (some ⟨gb, 0, none⟩)] w (HandR 3 (bounds p) w) := by
  have hml := pts_len hv
  have HS := Lib.hid (pts_simple hv)
  clear hv
  have hG1 : Gr w w none := Gr.refl _ _
  obtain ⟨L, at', ct, a4, n4, al, cl, hM, d0, d1, d2, hT, hr2, hP⟩ := hGA
  have HM := Lib.hid hM
  rw [← hM] at hml
  have D0 := Lib.hid (hG1.cell d0 (by simp))
  have HT := Lib.hid (hT.gr0 hG1)
  have HR := Lib.hid (hP.gr hG1)
  have hC0 : LstR 47 3 w w.heap.size w.heap.size (collR (boundRow p.types L) 0) none 0 0 := LstR.nil _ _ _ hG1.size
  have d2' := hG1.cell d2 (by simp)
  clear hM d0 d1 d2 hT hr2 hP
  go_enter Try.func81, Try.ntmps81
  go_wp2_with fail
  go_loopw [3, 11] (fun v i wr => ∃ (k n cap : Nat) (ao : Option Addr), k ≤ L.length ∧ i = .int .i64 k ∧ v = .slice ao n cap ∧ LstR 47 3 wr w.heap.size w.heap.size (collR (boundRow p.types L) k) ao n cap ∧ Gr w wr none) (fun _ i _ => L.length - (intOf i).toNat)
  case atStart => exact ⟨0, 0, 0, _, Nat.zero_le _, rfl, rfl, hC0, Gr.refl _ _⟩
  case round =>
    obtain ⟨k, n, cap, ao, hkl, rfl, rfl, hCo, hgr⟩ := hrel
    have hnk : n ≤ 1000 := by have := collR_len (boundRow_len p.types L) k; have := hCo.1; omega
    have hao := hCo.lt
    have HCo := Lib.hid hCo
    clear hCo hC0 d2'
    by_cases hlt : k < L.length
    · obtain ⟨b, po, rfl, an, cn, c0, c1, c2, c3, c4, -, -⟩ := (HR.out.gr hgr) k hlt
      obtain ⟨q, eq⟩ : ∃ q, L[k] = q := ⟨_, rfl⟩
      rw [eq] at c0 c1 c2 c3 c4
      have hq : q ∈ pts p := by rw [← HM.out, ← eq]; exact List.getElem_mem hlt
      have HI := Lib.hid (show boundRow p.types L k = bound1 q k ++ bound2 p.types q by unfold boundRow; rw [ptAt_get hlt, eq])
      have HSQ := Lib.hid (HS.out q hq)
      have HAO := Lib.hid hao
      clear eq hq hao
      go_upto_region 5 with fail
      obtain ⟨wX, hwX⟩ : ∃ wX : World, wX = wr.alloc (.cells #[.int .i64 q.op, .int .i64 q.x, .int .i64 q.y, .int .i64 q.n, .slice an q.next.length cn] 38) := ⟨_, rfl⟩
      have hgX0 : Gr wr wX none := by rw [hwX]; exact (Gr.refl _ _).alloc _
      have e0 : wX.cell? ⟨wr.heap.size, 0, none⟩ = some (.int .i64 q.op) := by rw [hwX]; exact cell_of_row _ _ _ _ _ _ (heap1_0 _ _)
      have e1 : wX.cell? ⟨wr.heap.size, 1, none⟩ = some (.int .i64 q.x) := by rw [hwX]; exact cell_of_row _ _ _ _ _ _ (heap1_0 _ _)
      have e2 : wX.cell? ⟨wr.heap.size, 2, none⟩ = some (.int .i64 q.y) := by rw [hwX]; exact cell_of_row _ _ _ _ _ _ (heap1_0 _ _)
      have e3 : wX.cell? ⟨wr.heap.size, 3, none⟩ = some (.int .i64 q.n) := by rw [hwX]; exact cell_of_row _ _ _ _ _ _ (heap1_0 _ _)
      have e4 : wX.cell? ⟨wr.heap.size, 4, none⟩ = some (.slice an q.next.length cn) := by rw [hwX]; exact cell_of_row _ _ _ _ _ _ (heap1_0 _ _)
      rw [← hwX]
      have HCX := Lib.hid (HCo.out.gr hgX0)
      have hgX := hgr.trans0 hgX0
      clear hwX c0 c1 c2 c3 c4 HCo hgX0
      have HTT := Lib.hid (fun ho => ref_y HSQ.out ho)
      cases hl : isLn q with
      | true =>
        obtain ⟨j, hj, hjl, hty⟩ := HTT.out (.inl hl)
        obtain ⟨bt, ot, rfl, -, ht⟩ := HT.out.at hjl
        rw [hj] at e2
        rw [← hty] at ht
        have HJ := Lib.hid hj
        have HTW := Lib.hid ht
        clear hj hty ht
        have hb1 : bound1 q k = [[.int .i64 q.x, .int .i64 k, .int .i64 (-1)]] := by unfold bound1; rw [if_pos hl]
        have HB1 := Lib.hid hb1
        have HL := Lib.hid hl
        clear hb1
        go_wp2_with fail
        refine (isLoan_any _ _ _ _ _ _).mono ?_
        rw [show (q.op == 4 || q.op == 5) = true from HL.out]
        rintro e w3 ⟨rfl, hgi⟩
        have hg3 : Gr w w3 none := hgX.trans0 hgi
        have HC3 := Lib.hid (HCX.out.gr hgi)
        replace e0 := hgi.cell e0 (by simp)
        replace e1 := hgi.cell e1 (by simp)
        replace e2 := hgi.cell e2 (by simp)
        replace e3 := hgi.cell e3 (by simp)
        replace e4 := hgi.cell e4 (by simp)
        have hxl : wr.heap.size < w3.heap.size := lt_of_cell e0
        clear hgi
        go_upto_region 7 with (at_builtin; refine app_r w3 _ rfl (.tmp 18) (.tmp 23) 44 rfl 47 3 24 _ Try.underlying44 BdInfo rfl (by decide) (by decide) w.heap.size w.heap.size ao cap n _ [.int .i64 q.x, .int .i64 k, .int .i64 (-1)] rfl HC3.out ((Gr.refl _ _).alloc _) w3.heap.size 1 rfl _ (heap1_0 _ _) rfl rfl (row_int3 _ _ _) (by omega) hg3.size ?_; rintro g4 cap4 w4 hC4 hg4 ho4)
        have hG4 : Gr w w4 none := hg4 _ (hg3.alloc _) (Nat.le_refl _)
        have f1 := ho4.cell (((Gr.refl w3 none).alloc _).cell e1 (by simp)) (fun h => by have := HAO.out _ h; simp at this)
        have f2 := ho4.cell (((Gr.refl w3 none).alloc _).cell e2 (by simp)) (fun h => by have := HAO.out _ h; simp at this)
        have f0 := ho4.cell (((Gr.refl w3 none).alloc _).cell e0 (by simp)) (fun h => by have := HAO.out _ h; simp at this)
        have f3 := ho4.cell (((Gr.refl w3 none).alloc _).cell e3 (by simp)) (fun h => by have := HAO.out _ h; simp at this)
        have f4 := ho4.cell (((Gr.refl w3 none).alloc _).cell e4 (by simp)) (fun h => by have := HAO.out _ h; simp at this)
        have fg := hG4.cell D0.out (by simp)
        have ft := hG4.cell HTW.out (by simp)
        have HC4 := Lib.hid hC4
        clear e0 e1 e2 e3 e4 hC4 hg4 ho4
        go_cut [43] (fun s wx => s = .bool (isRef (tyOf p.types q.y)) ∧ Gr w4 wx none)
        case first =>
          refine wp_region_held_drew (S := fun w' => Gr w4 w' none) (by kernel_rfl) (Gr.refl _ _).drew (fun hHeld => ?_)
          refine wpAnyH_take (i := 0) (v := ?_) rfl (by kernel_rfl) (by kernel_rfl) (by kernel_rfl) (fun _ _ _ h => h) (Or.inl ⟨by rfl, ?_⟩) hHeld ?_
          rotate_left
          focus (intro wq hq; have k0 := Gr.cell hq f0 (by simp); have k1 := Gr.cell hq f1 (by simp); have k2 := Gr.cell hq f2 (by simp); have k3 := Gr.cell hq f3 (by simp); have k4 := Gr.cell hq f4 (by simp); go_simp; try with_reducible rfl)
          simp only [Act.put, List.getElem_toArray, List.getElem_cons_zero, List.setIfInBounds_toArray, List.set_cons_zero, List.set_cons_succ]
          refine wpAnyH_ready (rs := [1]) (by kernel_rfl) (by simp) ?_
          refine AllReadyH.cons rfl (fun K hK => ?_) AllReadyH.nil
          go_simp
          refine (isLoan_any _ _ _ _ _ _).mono ?_
          rw [show (q.op == 4 || q.op == 5) = true from HL.out]
          rintro e w6 ⟨rfl, hgi⟩
          dsimp only
          refine hK.out _ _ (Gr.trans0 (show Gr w4 _ none from hHeld) hgi) (fun hHeld => ?_)
          clear hK K
          try simp only [Act.put, List.getElem_toArray, List.getElem_cons_succ, List.getElem_cons_zero, List.setIfInBounds_toArray, List.set_cons_zero, List.set_cons_succ]
          refine wpAnyH_take (i := 2) (v := ?_) rfl (by kernel_rfl) (by kernel_rfl) (by kernel_rfl) (fun _ _ _ h => h) (Or.inl ⟨by rfl, ?_⟩) hHeld ?_
          rotate_left
          focus (intro wq hq; clear hq; go_simp; try with_reducible rfl)
          simp only [Act.put, List.getElem_toArray, List.getElem_cons_succ, List.getElem_cons_zero, List.setIfInBounds_toArray, List.set_cons_zero, List.set_cons_succ]
          refine wpAnyH_take (i := 3) (v := _) rfl (by kernel_rfl) (by kernel_rfl) (by kernel_rfl) (fun _ _ _ h => h) (Or.inr ⟨by rfl, rfl⟩) hHeld ?_
          simp only [Act.put, List.getElem_toArray, List.getElem_cons_succ, List.getElem_cons_zero, List.setIfInBounds_toArray, List.set_cons_zero, List.set_cons_succ]
          refine wpAnyH_take (i := 4) (v := _) rfl (by kernel_rfl) (by kernel_rfl) (by kernel_rfl) (fun _ _ _ h => h) (Or.inr ⟨by rfl, rfl⟩) hHeld ?_
          simp only [Act.put, List.getElem_toArray, List.getElem_cons_succ, List.getElem_cons_zero, List.setIfInBounds_toArray, List.set_cons_zero, List.set_cons_succ]
          refine wpAnyH_take (i := 5) (v := _) rfl (by kernel_rfl) (by kernel_rfl) (by kernel_rfl) (fun _ _ _ h => h) (Or.inr ⟨by rfl, rfl⟩) hHeld ?_
          simp only [Act.put, List.getElem_toArray, List.getElem_cons_succ, List.getElem_cons_zero, List.setIfInBounds_toArray, List.set_cons_zero, List.set_cons_succ]
          refine wpAnyH_take (i := 6) (v := ?_) rfl (by kernel_rfl) (by kernel_rfl) (by kernel_rfl) (fun _ _ _ h => h) (Or.inl ⟨by rfl, ?_⟩) hHeld ?_
          rotate_left
          focus (intro wq hq; clear hq; go_simp; try with_reducible rfl)
          simp only [Act.put, List.getElem_toArray, List.getElem_cons_succ, List.getElem_cons_zero, List.setIfInBounds_toArray, List.set_cons_zero, List.set_cons_succ]
          refine wpAnyH_take (i := 7) (v := ?_) rfl (by kernel_rfl) (by kernel_rfl) (by kernel_rfl) (fun _ _ _ h => h) (Or.inl ⟨by rfl, ?_⟩) hHeld ?_
          rotate_left
          focus (intro wq hq; clear hq; go_simp; try with_reducible rfl)
          simp only [Act.put, List.getElem_toArray, List.getElem_cons_succ, List.getElem_cons_zero, List.setIfInBounds_toArray, List.set_cons_zero, List.set_cons_succ]
          refine wpAnyH_take (i := 8) (v := ?_) rfl (by kernel_rfl) (by kernel_rfl) (by kernel_rfl) (fun _ _ _ h => h) (Or.inl ⟨by rfl, ?_⟩) hHeld ?_
          rotate_left
          focus (intro wq hq; clear hq; go_simp; try with_reducible rfl)
          simp only [Act.put, List.getElem_toArray, List.getElem_cons_succ, List.getElem_cons_zero, List.setIfInBounds_toArray, List.set_cons_zero, List.set_cons_succ]
          refine wpAnyH_take (i := 9) (v := ?_) rfl (by kernel_rfl) (by kernel_rfl) (by kernel_rfl) (fun _ _ _ h => h) (Or.inl ⟨by rfl, ?_⟩) hHeld ?_
          rotate_left
          focus (intro wq hq; clear hq; go_simp; try with_reducible rfl)
          simp only [Act.put, List.getElem_toArray, List.getElem_cons_succ, List.getElem_cons_zero, List.setIfInBounds_toArray, List.set_cons_zero, List.set_cons_succ]
          refine wpAnyH_take (i := 10) (v := ?_) rfl (by kernel_rfl) (by kernel_rfl) (by kernel_rfl) (fun _ _ _ h => h) (Or.inl ⟨by rfl, ?_⟩) hHeld ?_
          rotate_left
          focus (intro wq hq; clear hq; go_simp; try with_reducible rfl)
          simp only [Act.put, List.getElem_toArray, List.getElem_cons_succ, List.getElem_cons_zero, List.setIfInBounds_toArray, List.set_cons_zero, List.set_cons_succ]
          refine wpAnyH_take (i := 11) (v := ?_) rfl (by kernel_rfl) (by kernel_rfl) (by kernel_rfl) (fun _ _ _ h => h) (Or.inl ⟨by rfl, ?_⟩) hHeld ?_
          rotate_left
          focus (intro wq hq; clear hq; go_simp; try with_reducible rfl)
          simp only [Act.put, List.getElem_toArray, List.getElem_cons_succ, List.getElem_cons_zero, List.setIfInBounds_toArray, List.set_cons_zero, List.set_cons_succ]
          refine wpAnyH_take (i := 12) (v := ?_) rfl (by kernel_rfl) (by kernel_rfl) (by kernel_rfl) (fun _ _ _ h => h) (Or.inl ⟨by rfl, ?_⟩) hHeld ?_
          rotate_left
          focus (intro wq hq; have k0 := Gr.cell hq fg (by simp); go_simp; try with_reducible rfl)
          simp only [Act.put, List.getElem_toArray, List.getElem_cons_succ, List.getElem_cons_zero, List.setIfInBounds_toArray, List.set_cons_zero, List.set_cons_succ]
          refine wpAnyH_take (i := 13) (v := ?_) rfl (by kernel_rfl) (by kernel_rfl) (by kernel_rfl) (fun _ _ _ h => h) (Or.inl ⟨by rfl, ?_⟩) hHeld ?_
          rotate_left
          focus (intro wq hq; clear hq; go_simp; try with_reducible rfl)
          simp only [Act.put, List.getElem_toArray, List.getElem_cons_succ, List.getElem_cons_zero, List.setIfInBounds_toArray, List.set_cons_zero, List.set_cons_succ]
          refine wpAnyH_take (i := 14) (v := ?_) rfl (by kernel_rfl) (by kernel_rfl) (by kernel_rfl) (fun _ _ _ h => h) (Or.inl ⟨by rfl, ?_⟩) hHeld ?_
          rotate_left
          focus (intro wq hq; have k0 := Gr.cell hq f2 (by simp); go_simp; try with_reducible rfl)
          simp only [Act.put, List.getElem_toArray, List.getElem_cons_succ, List.getElem_cons_zero, List.setIfInBounds_toArray, List.set_cons_zero, List.set_cons_succ]
          refine wpAnyH_take (i := 15) (v := ?_) rfl (by kernel_rfl) (by kernel_rfl) (by kernel_rfl) (fun _ _ _ h => h) (Or.inl ⟨by rfl, ?_⟩) hHeld ?_
          rotate_left
          focus (intro wq hq; clear hq; go_simp; try with_reducible rfl)
          simp only [Act.put, List.getElem_toArray, List.getElem_cons_succ, List.getElem_cons_zero, List.setIfInBounds_toArray, List.set_cons_zero, List.set_cons_succ]
          refine wpAnyH_take (i := 16) (v := ?_) rfl (by kernel_rfl) (by kernel_rfl) (by kernel_rfl) (fun _ _ _ h => h) (Or.inl ⟨by rfl, ?_⟩) hHeld ?_
          rotate_left
          focus (intro wq hq; have k0 := Gr.cell hq ft (by simp); go_simp; try with_reducible rfl)
          simp only [Act.put, List.getElem_toArray, List.getElem_cons_succ, List.getElem_cons_zero, List.setIfInBounds_toArray, List.set_cons_zero, List.set_cons_succ]
          refine wpAnyH_ready (rs := [17]) (by kernel_rfl) (by simp) ?_
          refine AllReadyH.cons rfl (fun K hK => ?_) AllReadyH.nil
          go_simp
          refine (implIsRef_any _ _).mono ?_
          rintro e w' ⟨rfl, rfl⟩
          dsimp only
          refine hK.out _ _ hHeld (fun hHeld => ?_)
          clear hK K
          try simp only [Act.put, List.getElem_toArray, List.getElem_cons_succ, List.getElem_cons_zero, List.setIfInBounds_toArray, List.set_cons_zero, List.set_cons_succ]
          refine wpAnyH_take (i := 18) (v := ?_) rfl (by kernel_rfl) (by kernel_rfl) (by kernel_rfl) (fun _ _ _ h => h) (Or.inl ⟨by rfl, ?_⟩) hHeld ?_
          rotate_left
          focus (intro wq hq; clear hq; go_simp; try with_reducible rfl)
          simp only [Act.put, List.getElem_toArray, List.getElem_cons_succ, List.getElem_cons_zero, List.setIfInBounds_toArray, List.set_cons_zero, List.set_cons_succ]
          refine wpAnyH_done (by kernel_rfl) ?_ _
          go_wp2_with fail
          go_meet
          exact ⟨rfl, hHeld⟩
        case rest =>
        rename World => w5
        obtain ⟨rfl, hg5x⟩ := hcut
        have h1 := hg5x.cell f1 (by simp)
        have h2 := hg5x.cell f2 (by simp)
        have HC5' := Lib.hid (HC4.out.gr hg5x)
        clear f0 f1 f2 f3 f4 fg ft
        cases hr : isRef (tyOf p.types q.y) with
        | true =>
          have HY := Lib.hid (show collR (boundRow p.types L) (k + 1) = collR (boundRow p.types L) k ++ [[.int .i64 q.x, .int .i64 k, .int .i64 (-1)]] ++ [[.int .i64 q.x, .int .i64 (-1), .int .i64 j]] by
            rw [collR, HI.out, HB1.out]; unfold bound2; rw [if_pos (by rw [HL.out, hr]; rfl), HJ.out]; simp)
          clear hr
          go_wp2_with (at_builtin; refine app_r w5 _ rfl (.tmp 44) (.tmp 50) 44 rfl 47 3 24 _ Try.underlying44 BdInfo rfl (by decide) (by decide) w.heap.size w.heap.size (some ⟨g4, 0, none⟩) cap4 (n + 1) _ [.int .i64 q.x, .int .i64 (-1), .int .i64 j] rfl HC5'.out ((Gr.refl _ _).alloc _) w5.heap.size 1 rfl _ (heap1_0 _ _) rfl rfl (row_int3 _ _ _) (by omega) (hG4.trans0 hg5x).size ?_; rintro g7 cap7 w7 hC7 hg7 ho7)
          go_roundw
          case rel => exact ⟨k + 1, n + 1 + 1, cap7, _, by omega, by go_num, rfl, by rw [HY.out]; exact hC7, hg7 _ ((hG4.trans0 hg5x).alloc _) (Nat.le_refl _)⟩
          case measure => simp [intOf]; omega
        | false =>
          have HY := Lib.hid (show collR (boundRow p.types L) (k + 1) = collR (boundRow p.types L) k ++ [[.int .i64 q.x, .int .i64 k, .int .i64 (-1)]] by
            rw [collR, HI.out, HB1.out]; unfold bound2; rw [if_neg (by rw [hr]; simp)]; simp)
          clear hr
          go_wp2_with fail
          go_roundw
          case rel => exact ⟨k + 1, n + 1, cap4, _, by omega, by go_num, rfl, by rw [HY.out]; exact HC5'.out, hG4.trans0 hg5x⟩
          case measure => simp [intOf]; omega
      | false =>
        have HL := Lib.hid hl
        have hb1 : bound1 q k = [] := by unfold bound1; rw [if_neg (by rw [hl]; simp)]
        have HB1 := Lib.hid hb1
        clear hb1
        by_cases h3 : q.op = 3
        · obtain ⟨j, hj, hjl, hty⟩ := HTT.out (.inr h3)
          obtain ⟨bt, ot, rfl, -, ht⟩ := HT.out.at hjl
          rw [hj] at e2
          rw [← hty] at ht
          have HJ := Lib.hid hj
          have HTW := Lib.hid ht
          clear hj hty ht
          have H3 := Lib.hid h3
          clear h3 hl
          go_wp2_with fail
          refine (isLoan_any _ _ _ _ _ _).mono ?_
          rw [show (q.op == 4 || q.op == 5) = false from HL.out]
          rintro e w3 ⟨rfl, hgi⟩
          have hg3 : Gr w w3 none := hgX.trans0 hgi
          have HC3 := Lib.hid (HCX.out.gr hgi)
          have f0 := hgi.cell e0 (by simp)
          have f1 := hgi.cell e1 (by simp)
          have f2 := hgi.cell e2 (by simp)
          have f3 := hgi.cell e3 (by simp)
          have f4 := hgi.cell e4 (by simp)
          have fg := hg3.cell D0.out (by simp)
          have ft := hg3.cell HTW.out (by simp)
          have h3' := H3.out
          rw [h3'] at f0
          clear h3'
          clear e0 e1 e2 e3 e4 hgi
          go_upto_region 7 with fail
          go_cut [43] (fun s wx => s = .bool (isRef (tyOf p.types q.y)) ∧ Gr w3 wx none)
          case first =>
            refine wp_region_held_drew (S := fun w' => Gr w3 w' none) (by kernel_rfl) (Gr.refl _ _).drew (fun hHeld => ?_)
            refine wpAnyH_take (i := 0) (v := ?_) rfl (by kernel_rfl) (by kernel_rfl) (by kernel_rfl) (fun _ _ _ h => h) (Or.inl ⟨by rfl, ?_⟩) hHeld ?_
            rotate_left
            focus (intro wq hq; have k0 := Gr.cell hq f0 (by simp); have k1 := Gr.cell hq f1 (by simp); have k2 := Gr.cell hq f2 (by simp); have k3 := Gr.cell hq f3 (by simp); have k4 := Gr.cell hq f4 (by simp); go_simp; try with_reducible rfl)
            simp only [Act.put, List.getElem_toArray, List.getElem_cons_zero, List.setIfInBounds_toArray, List.set_cons_zero, List.set_cons_succ]
            refine wpAnyH_ready (rs := [1]) (by kernel_rfl) (by simp) ?_
            refine AllReadyH.cons rfl (fun K hK => ?_) AllReadyH.nil
            go_simp
            refine (isLoan_any _ _ _ _ _ _).mono ?_
            rw [show ((3 : Int) == 4 || (3 : Int) == 5) = false from rfl]
            rintro e w6 ⟨rfl, hgi⟩
            dsimp only
            refine hK.out _ _ (Gr.trans0 (show Gr w3 _ none from hHeld) hgi) (fun hHeld => ?_)
            clear hK K
            try simp only [Act.put, List.getElem_toArray, List.getElem_cons_succ, List.getElem_cons_zero, List.setIfInBounds_toArray, List.set_cons_zero, List.set_cons_succ]
            refine wpAnyH_take (i := 2) (v := ?_) rfl (by kernel_rfl) (by kernel_rfl) (by kernel_rfl) (fun _ _ _ h => h) (Or.inl ⟨by rfl, ?_⟩) hHeld ?_
            rotate_left
            focus (intro wq hq; clear hq; go_simp; try with_reducible rfl)
            simp only [Act.put, List.getElem_toArray, List.getElem_cons_succ, List.getElem_cons_zero, List.setIfInBounds_toArray, List.set_cons_zero, List.set_cons_succ]
            refine wpAnyH_take (i := 3) (v := ?_) rfl (by kernel_rfl) (by kernel_rfl) (by kernel_rfl) (fun _ _ _ h => h) (Or.inl ⟨by rfl, ?_⟩) hHeld ?_
            rotate_left
            focus (intro wq hq; clear hq; go_simp; try with_reducible rfl)
            simp only [Act.put, List.getElem_toArray, List.getElem_cons_succ, List.getElem_cons_zero, List.setIfInBounds_toArray, List.set_cons_zero, List.set_cons_succ]
            refine wpAnyH_take (i := 4) (v := ?_) rfl (by kernel_rfl) (by kernel_rfl) (by kernel_rfl) (fun _ _ _ h => h) (Or.inl ⟨by rfl, ?_⟩) hHeld ?_
            rotate_left
            focus (intro wq hq; have k0 := Gr.cell hq f0 (by simp); go_simp; try with_reducible rfl)
            simp only [Act.put, List.getElem_toArray, List.getElem_cons_succ, List.getElem_cons_zero, List.setIfInBounds_toArray, List.set_cons_zero, List.set_cons_succ]
            refine wpAnyH_take (i := 5) (v := ?_) rfl (by kernel_rfl) (by kernel_rfl) (by kernel_rfl) (fun _ _ _ h => h) (Or.inl ⟨by rfl, ?_⟩) hHeld ?_
            rotate_left
            focus (intro wq hq; clear hq; go_simp; try with_reducible rfl)
            simp only [Act.put, List.getElem_toArray, List.getElem_cons_succ, List.getElem_cons_zero, List.setIfInBounds_toArray, List.set_cons_zero, List.set_cons_succ]
            refine wpAnyH_take (i := 6) (v := ?_) rfl (by kernel_rfl) (by kernel_rfl) (by kernel_rfl) (fun _ _ _ h => h) (Or.inl ⟨by rfl, ?_⟩) hHeld ?_
            rotate_left
            focus (intro wq hq; clear hq; go_simp; try with_reducible rfl)
            simp only [Act.put, List.getElem_toArray, List.getElem_cons_succ, List.getElem_cons_zero, List.setIfInBounds_toArray, List.set_cons_zero, List.set_cons_succ]
            refine wpAnyH_take (i := 7) (v := ?_) rfl (by kernel_rfl) (by kernel_rfl) (by kernel_rfl) (fun _ _ _ h => h) (Or.inl ⟨by rfl, ?_⟩) hHeld ?_
            rotate_left
            focus (intro wq hq; clear hq; go_simp; try with_reducible rfl)
            simp only [Act.put, List.getElem_toArray, List.getElem_cons_succ, List.getElem_cons_zero, List.setIfInBounds_toArray, List.set_cons_zero, List.set_cons_succ]
            refine wpAnyH_take (i := 8) (v := ?_) rfl (by kernel_rfl) (by kernel_rfl) (by kernel_rfl) (fun _ _ _ h => h) (Or.inl ⟨by rfl, ?_⟩) hHeld ?_
            rotate_left
            focus (intro wq hq; clear hq; go_simp; try with_reducible rfl)
            simp only [Act.put, List.getElem_toArray, List.getElem_cons_succ, List.getElem_cons_zero, List.setIfInBounds_toArray, List.set_cons_zero, List.set_cons_succ]
            refine wpAnyH_take (i := 9) (v := ?_) rfl (by kernel_rfl) (by kernel_rfl) (by kernel_rfl) (fun _ _ _ h => h) (Or.inl ⟨by rfl, ?_⟩) hHeld ?_
            rotate_left
            focus (intro wq hq; clear hq; go_simp; try with_reducible rfl)
            simp only [Act.put, List.getElem_toArray, List.getElem_cons_succ, List.getElem_cons_zero, List.setIfInBounds_toArray, List.set_cons_zero, List.set_cons_succ]
            refine wpAnyH_take (i := 10) (v := ?_) rfl (by kernel_rfl) (by kernel_rfl) (by kernel_rfl) (fun _ _ _ h => h) (Or.inl ⟨by rfl, ?_⟩) hHeld ?_
            rotate_left
            focus (intro wq hq; clear hq; go_simp; try with_reducible rfl)
            simp only [Act.put, List.getElem_toArray, List.getElem_cons_succ, List.getElem_cons_zero, List.setIfInBounds_toArray, List.set_cons_zero, List.set_cons_succ]
            refine wpAnyH_take (i := 11) (v := ?_) rfl (by kernel_rfl) (by kernel_rfl) (by kernel_rfl) (fun _ _ _ h => h) (Or.inl ⟨by rfl, ?_⟩) hHeld ?_
            rotate_left
            focus (intro wq hq; clear hq; go_simp; try with_reducible rfl)
            simp only [Act.put, List.getElem_toArray, List.getElem_cons_succ, List.getElem_cons_zero, List.setIfInBounds_toArray, List.set_cons_zero, List.set_cons_succ]
            refine wpAnyH_take (i := 12) (v := ?_) rfl (by kernel_rfl) (by kernel_rfl) (by kernel_rfl) (fun _ _ _ h => h) (Or.inl ⟨by rfl, ?_⟩) hHeld ?_
            rotate_left
            focus (intro wq hq; have k0 := Gr.cell hq fg (by simp); go_simp; try with_reducible rfl)
            simp only [Act.put, List.getElem_toArray, List.getElem_cons_succ, List.getElem_cons_zero, List.setIfInBounds_toArray, List.set_cons_zero, List.set_cons_succ]
            refine wpAnyH_take (i := 13) (v := ?_) rfl (by kernel_rfl) (by kernel_rfl) (by kernel_rfl) (fun _ _ _ h => h) (Or.inl ⟨by rfl, ?_⟩) hHeld ?_
            rotate_left
            focus (intro wq hq; clear hq; go_simp; try with_reducible rfl)
            simp only [Act.put, List.getElem_toArray, List.getElem_cons_succ, List.getElem_cons_zero, List.setIfInBounds_toArray, List.set_cons_zero, List.set_cons_succ]
            refine wpAnyH_take (i := 14) (v := ?_) rfl (by kernel_rfl) (by kernel_rfl) (by kernel_rfl) (fun _ _ _ h => h) (Or.inl ⟨by rfl, ?_⟩) hHeld ?_
            rotate_left
            focus (intro wq hq; have k0 := Gr.cell hq f2 (by simp); go_simp; try with_reducible rfl)
            simp only [Act.put, List.getElem_toArray, List.getElem_cons_succ, List.getElem_cons_zero, List.setIfInBounds_toArray, List.set_cons_zero, List.set_cons_succ]
            refine wpAnyH_take (i := 15) (v := ?_) rfl (by kernel_rfl) (by kernel_rfl) (by kernel_rfl) (fun _ _ _ h => h) (Or.inl ⟨by rfl, ?_⟩) hHeld ?_
            rotate_left
            focus (intro wq hq; clear hq; go_simp; try with_reducible rfl)
            simp only [Act.put, List.getElem_toArray, List.getElem_cons_succ, List.getElem_cons_zero, List.setIfInBounds_toArray, List.set_cons_zero, List.set_cons_succ]
            refine wpAnyH_take (i := 16) (v := ?_) rfl (by kernel_rfl) (by kernel_rfl) (by kernel_rfl) (fun _ _ _ h => h) (Or.inl ⟨by rfl, ?_⟩) hHeld ?_
            rotate_left
            focus (intro wq hq; have k0 := Gr.cell hq ft (by simp); go_simp; try with_reducible rfl)
            simp only [Act.put, List.getElem_toArray, List.getElem_cons_succ, List.getElem_cons_zero, List.setIfInBounds_toArray, List.set_cons_zero, List.set_cons_succ]
            refine wpAnyH_ready (rs := [17]) (by kernel_rfl) (by simp) ?_
            refine AllReadyH.cons rfl (fun K hK => ?_) AllReadyH.nil
            go_simp
            refine (implIsRef_any _ _).mono ?_
            rintro e w' ⟨rfl, rfl⟩
            dsimp only
            refine hK.out _ _ hHeld (fun hHeld => ?_)
            clear hK K
            try simp only [Act.put, List.getElem_toArray, List.getElem_cons_succ, List.getElem_cons_zero, List.setIfInBounds_toArray, List.set_cons_zero, List.set_cons_succ]
            refine wpAnyH_take (i := 18) (v := ?_) rfl (by kernel_rfl) (by kernel_rfl) (by kernel_rfl) (fun _ _ _ h => h) (Or.inl ⟨by rfl, ?_⟩) hHeld ?_
            rotate_left
            focus (intro wq hq; clear hq; go_simp; try with_reducible rfl)
            simp only [Act.put, List.getElem_toArray, List.getElem_cons_succ, List.getElem_cons_zero, List.setIfInBounds_toArray, List.set_cons_zero, List.set_cons_succ]
            refine wpAnyH_done (by kernel_rfl) ?_ _
            go_wp2_with fail
            go_meet
            exact ⟨rfl, hHeld⟩
          case rest =>
          rename World => w5
          obtain ⟨rfl, hg5x⟩ := hcut
          have h1 := hg5x.cell f1 (by simp)
          have h2 := hg5x.cell f2 (by simp)
          have HC5' := Lib.hid (HC3.out.gr hg5x)
          clear f0 f1 f2 f3 f4 fg ft
          cases hr : isRef (tyOf p.types q.y) with
          | true =>
            have HY := Lib.hid (show collR (boundRow p.types L) (k + 1) = collR (boundRow p.types L) k ++ [[.int .i64 q.x, .int .i64 (-1), .int .i64 j]] by
              rw [collR, HI.out, HB1.out]; unfold bound2; rw [if_pos (by rw [HL.out, hr, H3.out]; rfl), HJ.out]; simp)
            clear hr
            go_wp2_with (at_builtin; refine app_r w5 _ rfl (.tmp 44) (.tmp 50) 44 rfl 47 3 24 _ Try.underlying44 BdInfo rfl (by decide) (by decide) w.heap.size w.heap.size ao cap n _ [.int .i64 q.x, .int .i64 (-1), .int .i64 j] rfl HC5'.out ((Gr.refl _ _).alloc _) w5.heap.size 1 rfl _ (heap1_0 _ _) rfl rfl (row_int3 _ _ _) (by omega) (hg3.trans0 hg5x).size ?_; rintro g7 cap7 w7 hC7 hg7 ho7)
            go_roundw
            case rel => exact ⟨k + 1, n + 1, cap7, _, by omega, by go_num, rfl, by rw [HY.out]; exact hC7, hg7 _ ((hg3.trans0 hg5x).alloc _) (Nat.le_refl _)⟩
            case measure => simp [intOf]; omega
          | false =>
            have HY := Lib.hid (show collR (boundRow p.types L) (k + 1) = collR (boundRow p.types L) k by
              rw [collR, HI.out, HB1.out]; unfold bound2; rw [if_neg (by rw [hr]; simp)]; simp)
            clear hr
            go_wp2_with fail
            go_roundw
            case rel => exact ⟨k + 1, n, cap, ao, by omega, by go_num, rfl, by rw [HY.out]; exact HC5'.out, hg3.trans0 hg5x⟩
            case measure => simp [intOf]; omega
        · have HY := Lib.hid (show collR (boundRow p.types L) (k + 1) = collR (boundRow p.types L) k by
            rw [collR, HI.out, HB1.out]; unfold bound2; rw [if_neg (by rw [hl]; simp [h3])]; simp)
          have hb3 : (q.op == 3) = false := by simp [h3]
          have hd3 : decide (q.op = 3) = false := by simp [h3]
          clear hl
          go_wp2_with fail
          refine (isLoan_any _ _ _ _ _ _).mono ?_
          rw [show (q.op == 4 || q.op == 5) = false from HL.out]
          rintro e w3 ⟨rfl, hgi⟩
          have hg3 : Gr w w3 none := hgX.trans0 hgi
          have HC3 := Lib.hid (HCX.out.gr hgi)
          have f0 := hgi.cell e0 (by simp)
          have f1 := hgi.cell e1 (by simp)
          have f2 := hgi.cell e2 (by simp)
          have f3 := hgi.cell e3 (by simp)
          have f4 := hgi.cell e4 (by simp)
          have fg := hg3.cell D0.out (by simp)
          clear e0 e1 e2 e3 e4 hgi
          go_upto_region 7 with fail
          go_cut [43] (fun s wx => s = .bool false ∧ Gr w3 wx none)
          case first =>
            refine wp_region_held_drew (S := fun w' => Gr w3 w' none) (by kernel_rfl) (Gr.refl _ _).drew (fun hHeld => ?_)
            refine wpAnyH_take (i := 0) (v := ?_) rfl (by kernel_rfl) (by kernel_rfl) (by kernel_rfl) (fun _ _ _ h => h) (Or.inl ⟨by rfl, ?_⟩) hHeld ?_
            rotate_left
            focus (intro wq hq; have k0 := Gr.cell hq f0 (by simp); have k1 := Gr.cell hq f1 (by simp); have k2 := Gr.cell hq f2 (by simp); have k3 := Gr.cell hq f3 (by simp); have k4 := Gr.cell hq f4 (by simp); go_simp; try with_reducible rfl)
            simp only [Act.put, List.getElem_toArray, List.getElem_cons_zero, List.setIfInBounds_toArray, List.set_cons_zero, List.set_cons_succ]
            refine wpAnyH_ready (rs := [1]) (by kernel_rfl) (by simp) ?_
            refine AllReadyH.cons rfl (fun K hK => ?_) AllReadyH.nil
            go_simp
            refine (isLoan_any _ _ _ _ _ _).mono ?_
            rw [show (q.op == 4 || q.op == 5) = false from HL.out]
            rintro e w6 ⟨rfl, hgi⟩
            dsimp only
            refine hK.out _ _ (Gr.trans0 (show Gr w3 _ none from hHeld) hgi) (fun hHeld => ?_)
            clear hK K
            try simp only [Act.put, List.getElem_toArray, List.getElem_cons_succ, List.getElem_cons_zero, List.setIfInBounds_toArray, List.set_cons_zero, List.set_cons_succ]
            refine wpAnyH_take (i := 2) (v := ?_) rfl (by kernel_rfl) (by kernel_rfl) (by kernel_rfl) (fun _ _ _ h => h) (Or.inl ⟨by rfl, ?_⟩) hHeld ?_
            rotate_left
            focus (intro wq hq; clear hq; go_simp; try with_reducible rfl)
            simp only [Act.put, List.getElem_toArray, List.getElem_cons_succ, List.getElem_cons_zero, List.setIfInBounds_toArray, List.set_cons_zero, List.set_cons_succ]
            refine wpAnyH_take (i := 3) (v := ?_) rfl (by kernel_rfl) (by kernel_rfl) (by kernel_rfl) (fun _ _ _ h => h) (Or.inl ⟨by rfl, ?_⟩) hHeld ?_
            rotate_left
            focus (intro wq hq; clear hq; go_simp; try with_reducible rfl)
            simp only [Act.put, List.getElem_toArray, List.getElem_cons_succ, List.getElem_cons_zero, List.setIfInBounds_toArray, List.set_cons_zero, List.set_cons_succ]
            refine wpAnyH_take (i := 4) (v := ?_) rfl (by kernel_rfl) (by kernel_rfl) (by kernel_rfl) (fun _ _ _ h => h) (Or.inl ⟨by rfl, ?_⟩) hHeld ?_
            rotate_left
            focus (intro wq hq; have k0 := Gr.cell hq f0 (by simp); go_simp; try with_reducible rfl)
            simp only [Act.put, List.getElem_toArray, List.getElem_cons_succ, List.getElem_cons_zero, List.setIfInBounds_toArray, List.set_cons_zero, List.set_cons_succ]
            refine wpAnyH_take (i := 5) (v := ?_) rfl (by kernel_rfl) (by kernel_rfl) (by kernel_rfl) (fun _ _ _ h => h) (Or.inl ⟨by rfl, ?_⟩) hHeld ?_
            rotate_left
            focus (intro wq hq; clear hq; go_simp; try with_reducible rfl)
            simp only [Act.put, List.getElem_toArray, List.getElem_cons_succ, List.getElem_cons_zero, List.setIfInBounds_toArray, List.set_cons_zero, List.set_cons_succ]
            refine wpAnyH_take (i := 6) (v := ?_) rfl (by kernel_rfl) (by kernel_rfl) (by kernel_rfl) (fun _ _ _ h => h) (Or.inl ⟨by rfl, ?_⟩) hHeld ?_
            rotate_left
            focus (intro wq hq; clear hq; go_simp; try with_reducible rfl)
            simp only [Act.put, List.getElem_toArray, List.getElem_cons_succ, List.getElem_cons_zero, List.setIfInBounds_toArray, List.set_cons_zero, List.set_cons_succ]
            refine wpAnyH_take (i := 7) (v := ?_) rfl (by kernel_rfl) (by kernel_rfl) (by kernel_rfl) (fun _ _ _ h => h) (Or.inl ⟨by rfl, ?_⟩) hHeld ?_
            rotate_left
            focus (intro wq hq; clear hq; go_simp; try with_reducible rfl)
            simp only [Act.put, List.getElem_toArray, List.getElem_cons_succ, List.getElem_cons_zero, List.setIfInBounds_toArray, List.set_cons_zero, List.set_cons_succ]
            refine wpAnyH_take (i := 8) (v := _) rfl (by kernel_rfl) (by kernel_rfl) (by kernel_rfl) (fun _ _ _ h => h) (Or.inr ⟨by rfl, rfl⟩) hHeld ?_
            simp only [Act.put, List.getElem_toArray, List.getElem_cons_succ, List.getElem_cons_zero, List.setIfInBounds_toArray, List.set_cons_zero, List.set_cons_succ]
            refine wpAnyH_take (i := 9) (v := _) rfl (by kernel_rfl) (by kernel_rfl) (by kernel_rfl) (fun _ _ _ h => h) (Or.inr ⟨by rfl, rfl⟩) hHeld ?_
            simp only [Act.put, List.getElem_toArray, List.getElem_cons_succ, List.getElem_cons_zero, List.setIfInBounds_toArray, List.set_cons_zero, List.set_cons_succ]
            refine wpAnyH_take (i := 10) (v := _) rfl (by kernel_rfl) (by kernel_rfl) (by kernel_rfl) (fun _ _ _ h => h) (Or.inr ⟨by rfl, rfl⟩) hHeld ?_
            simp only [Act.put, List.getElem_toArray, List.getElem_cons_succ, List.getElem_cons_zero, List.setIfInBounds_toArray, List.set_cons_zero, List.set_cons_succ]
            refine wpAnyH_take (i := 11) (v := _) rfl (by kernel_rfl) (by kernel_rfl) (by kernel_rfl) (fun _ _ _ h => h) (Or.inr ⟨by rfl, rfl⟩) hHeld ?_
            simp only [Act.put, List.getElem_toArray, List.getElem_cons_succ, List.getElem_cons_zero, List.setIfInBounds_toArray, List.set_cons_zero, List.set_cons_succ]
            refine wpAnyH_take (i := 12) (v := _) rfl (by kernel_rfl) (by kernel_rfl) (by kernel_rfl) (fun _ _ _ h => h) (Or.inr ⟨by rfl, rfl⟩) hHeld ?_
            simp only [Act.put, List.getElem_toArray, List.getElem_cons_succ, List.getElem_cons_zero, List.setIfInBounds_toArray, List.set_cons_zero, List.set_cons_succ]
            refine wpAnyH_take (i := 13) (v := _) rfl (by kernel_rfl) (by kernel_rfl) (by kernel_rfl) (fun _ _ _ h => h) (Or.inr ⟨by rfl, rfl⟩) hHeld ?_
            simp only [Act.put, List.getElem_toArray, List.getElem_cons_succ, List.getElem_cons_zero, List.setIfInBounds_toArray, List.set_cons_zero, List.set_cons_succ]
            refine wpAnyH_take (i := 14) (v := _) rfl (by kernel_rfl) (by kernel_rfl) (by kernel_rfl) (fun _ _ _ h => h) (Or.inr ⟨by rfl, rfl⟩) hHeld ?_
            simp only [Act.put, List.getElem_toArray, List.getElem_cons_succ, List.getElem_cons_zero, List.setIfInBounds_toArray, List.set_cons_zero, List.set_cons_succ]
            refine wpAnyH_take (i := 15) (v := _) rfl (by kernel_rfl) (by kernel_rfl) (by kernel_rfl) (fun _ _ _ h => h) (Or.inr ⟨by rfl, rfl⟩) hHeld ?_
            simp only [Act.put, List.getElem_toArray, List.getElem_cons_succ, List.getElem_cons_zero, List.setIfInBounds_toArray, List.set_cons_zero, List.set_cons_succ]
            refine wpAnyH_take (i := 16) (v := _) rfl (by kernel_rfl) (by kernel_rfl) (by kernel_rfl) (fun _ _ _ h => h) (Or.inr ⟨by rfl, rfl⟩) hHeld ?_
            simp only [Act.put, List.getElem_toArray, List.getElem_cons_succ, List.getElem_cons_zero, List.setIfInBounds_toArray, List.set_cons_zero, List.set_cons_succ]
            refine wpAnyH_take (i := 17) (v := _) rfl (by kernel_rfl) (by kernel_rfl) (by kernel_rfl) (fun _ _ _ h => h) (Or.inr ⟨by rfl, rfl⟩) hHeld ?_
            simp only [Act.put, List.getElem_toArray, List.getElem_cons_succ, List.getElem_cons_zero, List.setIfInBounds_toArray, List.set_cons_zero, List.set_cons_succ]
            refine wpAnyH_take (i := 18) (v := ?_) rfl (by kernel_rfl) (by kernel_rfl) (by kernel_rfl) (fun _ _ _ h => h) (Or.inl ⟨by rfl, ?_⟩) hHeld ?_
            rotate_left
            focus (intro wq hq; clear hq; go_simp; try with_reducible rfl)
            simp only [Act.put, List.getElem_toArray, List.getElem_cons_succ, List.getElem_cons_zero, List.setIfInBounds_toArray, List.set_cons_zero, List.set_cons_succ]
            refine wpAnyH_done (by kernel_rfl) ?_ _
            go_wp2_with fail
            go_meet
            exact ⟨rfl, hHeld⟩
          case rest =>
          rename World => w5
          obtain ⟨rfl, hg5x⟩ := hcut
          clear f0 f1 f2 f3 f4 fg
          go_wp2_with fail
          go_roundw
          case rel => exact ⟨k + 1, n, cap, ao, by omega, by go_num, rfl, by rw [HY.out]; exact HC3.out.gr hg5x, hg3.trans0 hg5x⟩
          case measure => simp [intOf]; omega
    · obtain rfl : k = L.length := by omega
      go_wp2_with fail
      go_ret
      exact HCo.out.hand (by rw [HM.out]; rfl) (hG1.trans0 hgr)

theorem specBoundsOf_any (p : Pr) (at' ab : Option Addr) (ct cb : Nat) (w : World) (hT : InAt w Any p.types at') (hB : SlAt w Any p.body ab) (hs : p.types.length ≤ 1048576) (hc : St.count p.body ≤ 1048576) :
    Calls Try.prog 46 #[.agg #[.slice at' p.types.length ct, .slice ab p.body.length cb]] w (HandR 3 (boundsOf p) w) := by
  have hlc := count_length p.body
  have hg1 : ∀ o, Gr w (w.alloc o) none := fun o => (Gr.refl _ _).alloc _
  go_enter Try.func46, Try.ntmps46
  go_wp2_with fail
  refine (validS_any p at' ab ct cb _ (hT.gr0 (hg1 _)) (hB.gr0 (hg1 _)) hs hc (by omega)).mono ?_
  rw [valid_same]
  rintro e w1 ⟨rfl, hg⟩
  have hG1 : Gr w w1 none := (hg1 _).trans0 hg
  have q0 : w1.cell? ⟨w.heap.size, 0, none⟩ = some (.slice at' p.types.length ct) := hg.cell (p := ⟨w.heap.size, 0, none⟩) (cell?_new2 _ _).1 (by simp)
  have q1 : w1.cell? ⟨w.heap.size, 1, none⟩ = some (.slice ab p.body.length cb) := hg.cell (p := ⟨w.heap.size, 1, none⟩) (cell?_new2 _ _).2 (by simp)
  clear hg
  cases hv : validP p with
  | true =>
    have HO := Lib.hid (show boundsOf p = bounds p by unfold boundsOf; rw [if_pos hv])
    have HV := Lib.hid hv
    clear hv
    go_wp2_with fail
    refine (l9Bounds_any p at' ab ct cb _ (hT.gr0 hG1) (hB.gr0 hG1) HV.out (by omega)).mono ?_
    intro e w3 hh
    have hhh := hh.after hG1
    rw [← HO.out] at hh hhh
    obtain ⟨a3, c3, rfl, -⟩ := hh
    have HH := Lib.hid hhh
    clear hhh
    go_wp2_with fail
    go_ret
    exact HH.out
  | false =>
    have HO := Lib.hid (show boundsOf p = [] by unfold boundsOf; rw [hv]; rfl)
    clear hv
    go_wp2_with fail
    go_ret
    rw [HO.out]
    exact LstR.hand (e := 47) (LstR.empty hG1.size hG1.size (heap1_0 _ _)) rfl (hG1.alloc _)
theorem graphOk_none (p : Pr) : graphOk p [] = validP p := by unfold graphOk; cases validP p <;> rfl
theorem implBoundsOf_any (p : Pr) (at' ab : Option Addr) (ct cb : Nat) (w : World) (hT : InAt w Any p.types at') (hB : SlAt w Any p.body ab) (hs : p.types.length ≤ 1048576) (hc : p.body.length ≤ 1048576) :
    Calls Try.prog 40 #[.agg #[.slice at' p.types.length ct, .slice ab p.body.length cb]] w (HandR 3 (boundsOf p) w) := by
  have hg1 : ∀ o, Gr w (w.alloc o) none := fun o => (Gr.refl _ _).alloc _
  go_enter Try.func40, Try.ntmps40
  go_wp2_with fail
  refine (graphOf_any p [] at' ab none ct cb 0 _ (hT.gr0 (hg1 _)) (hB.gr0 (hg1 _)) (by simp [InAt]) hs hc (by simp)).mono ?_
  rintro e w1 ⟨hg, hif⟩
  have hG1 : Gr w w1 none := (hg1 _).trans0 hg
  clear hg
  rw [graphOk_none] at hif
  cases hv : validP p with
  | true =>
    rw [hv, if_pos rfl] at hif
    obtain ⟨gb, rfl, hgb, hGA⟩ := hif
    have HO := Lib.hid (show boundsOf p = bounds p by unfold boundsOf; rw [if_pos hv])
    have HV := Lib.hid hv
    clear hv
    go_wp2_with fail
    refine (bounds_any p gb _ hGA HV.out).mono ?_
    intro e w3 hh
    have hhh := hh.after hG1
    rw [← HO.out] at hh hhh
    obtain ⟨a3, c3, rfl, -⟩ := hh
    have HH := Lib.hid hhh
    clear hhh
    go_wp2_with fail
    go_ret
    exact HH.out
  | false =>
    rw [hv, if_neg (by simp)] at hif
    subst hif
    have HO := Lib.hid (show boundsOf p = [] by unfold boundsOf; rw [hv]; rfl)
    clear hv
    go_wp2_with fail
    go_ret
    rw [HO.out]
    exact HandR.nil _ _ _ hG1
end Go.Proofs.Ytpnaeijkllmihaa

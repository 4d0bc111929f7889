/- Walks of l2Has and WayChoices of the reference. -/
import Derived.Test.YtdnhinkjmjpnnaaF5

import Derived.Deep.RegionHeld3

namespace Go.Proofs.Ytdnhinkjmjpnnaa

open Go.RowKit

set_option maxRecDepth 100000 in
set_option maxHeartbeats 1000000 in
theorem l2Has_any (l : List Int) (x : Int) (a : Option Addr) (c : Nat) (w : World) (h : InAt w Any l a) (hl : l.length ≤ 1048576) :
    Calls Try.prog 75 #[.slice a l.length c, .int .i64 x] w fun e w' => e = .returned (.bool (decide (x ∈ l))) ∧ w = w' := by
  go_enter Try.func75, Try.ntmps75
  go_wp2_with fail
  go_loop [5] (fun i => ∃ k : Nat, k ≤ l.length ∧ i = .int .i64 k ∧ ∀ j (h : j < l.length), j < k → l[j] ≠ x) (fun i => l.length - (intOf i).toNat)
  case atStart => exact ⟨0, Nat.zero_le _, rfl, fun j _ h => absurd h (by omega)⟩
  case round =>
    obtain ⟨k, hk, rfl, hall⟩ := hrel
    have HA := Lib.hid hall
    clear hall
    by_cases hlt : k < l.length
    · obtain ⟨b, off, rfl, _, hc⟩ := h.at hlt
      by_cases he : l[k] = x
      · have HO := Lib.hid (show decide (x ∈ l) = true from decide_eq_true (by rw [← he]; exact List.getElem_mem hlt))
        rw [he] at hc
        clear he
        go_wp2_with fail
        go_ret
        exact ⟨by rw [HO.out]; rfl, rfl⟩
      · have HN := Lib.hid he
        obtain ⟨y, hy⟩ : ∃ y, l[k] = y := ⟨_, rfl⟩
        rw [hy] at hc he
        have he2 : (y == x) = false := beq_eq_false_iff_ne.2 he
        have HY := Lib.hid hy
        clear he hy
        go_wp2_with fail
        go_round
        case rel => exact ⟨k + 1, by omega, by go_num, fun j hj hjk => by
          by_cases e : j = k
          · subst e; exact HN.out
          · exact HA.out j hj (by omega)⟩
        case measure => simp [intOf]; omega
    · have HO := Lib.hid (show decide (x ∈ l) = false from decide_eq_false (fun hm => by
        obtain ⟨j, hj, e⟩ := List.getElem_of_mem hm
        exact HA.out j hj (by omega) e))
      go_wp2_with fail
      go_ret
      exact ⟨by rw [HO.out]; rfl, rfl⟩
theorem valid_of' {p : Pr} (h : 0 < (ptsOf p).length) : validP p = true := by
  cases hv : validP p with
  | true => rfl
  | false => unfold ptsOf at h; rw [hv] at h; simp at h
theorem HandIOk.none (w W : World) (hg : Gr w W none) : HandIOk [] false w (.returned (.tuple #[.slice (some ⟨W.heap.size, 0, none⟩) 0 0, .bool false])) (W.alloc (.cells #[] 3)) :=
  (Lst.hand (l := []) (Lst.empty (base := w.heap.size) (Nat.le_refl _) hg.size (heap1_0 _ _)) rfl (hg.alloc _)).ok false (Nat.le_refl _)
set_option maxRecDepth 100000 in
set_option maxHeartbeats 4000000 in
theorem specWayChoices_any (p : Pr) (l : List Int) (at' ab aw : Option Addr) (ct cb cw : Nat) (w : World) (hT : InAt w Any p.types at') (hB : SlAt w Any p.body ab) (hs : p.types.length ≤ 1048576) (hc : St.count p.body ≤ 1048576) (hW : InAt w Any l aw) (hlw : l.length ≤ 1048576) :
    Calls Try.prog 22 #[.agg #[.slice at' p.types.length ct, .slice ab p.body.length cb], .slice aw l.length cw] w (HandIOk (wayOf p l).1 (wayOf p l).2 w) := by
  have hg1 : ∀ o o', Gr w ((w.alloc o).alloc o') none := fun o o' => ((Gr.refl _ _).alloc _).alloc _
  go_enter Try.func22, Try.ntmps22
  go_wp2_with fail
  refine (specPointsOf_any p at' ab ct cb _ (hT.gr0 (hg1 _ _)) (hB.gr0 (hg1 _ _)) hs hc).mono ?_
  rintro e w1 ⟨L, am, c, hM, rfl, hown, hg⟩
  have hG1 : Gr w w1 none := (hg1 _ _).trans0 hg
  have hE : w1.heap[w.heap.size + 1]? = some (.cells #[] 3 (0, 0)) := (hg.block _ (by simp) (by simp)).trans (heap2_1 _ _ _)
  have hW1 := hW.gr0 hG1
  have HW := Lib.hid hW1
  have HL := Lib.hid hM
  have HP := Lib.hid hown.read
  clear hg hown hW hT hB
  by_cases hv0 : L.length = 0
  · have HO := Lib.hid (wayOf_out (l := l) (show validP p = false by
      cases hv : validP p with
      | false => rfl
      | true => have := pts_pos hv; rw [← HL.out, hv0] at this; simp at this))
    have hv' : ((L.length : Int) == 0) = true := by rw [hv0]; rfl
    clear hv0 hM
    go_wp2_with fail
    go_ret2
    rw [HO.out]
    exact HandIOk.none _ _ hG1
  have hv : validP p = true := valid_of' (by rw [← hM]; omega)
  have hv' : ((L.length : Int) == 0) = false := beq_eq_false_iff_ne.2 (by omega)
  have hml : L.length ≤ 61 := by rw [hM]; exact ptsOf_le p
  have HOK := Lib.hid (ptsOf_ok p)
  have HV := Lib.hid hv
  clear hv hM hv0
  by_cases h0 : l.length = 0
  · have HO := Lib.hid (show wayOf p l = ([], false) by rw [List.eq_nil_of_length_eq_zero h0]; rfl)
    have h0' : ((l.length : Int) == 0) = true := by rw [h0]; rfl
    clear h0
    go_wp2_with fail
    go_ret2
    rw [HO.out]
    exact HandIOk.none _ _ hG1
  have h0' : ((l.length : Int) == 0) = false := beq_eq_false_iff_ne.2 (by omega)
  have hpos : 0 < l.length := by omega
  obtain ⟨b0, o0, rfl, -, c0⟩ := hW1.at hpos
  simp only [Nat.add_zero] at c0
  clear h0 hW1
  by_cases hz : l[0] = 0
  · have HS := Lib.hid (WayAt.start HV.out hpos hz)
    rw [hz] at c0
    obtain ⟨W, hWW⟩ : ∃ W, wayOf p l = W := ⟨_, rfl⟩
    rw [hWW, ← HL.out] at HS
    have HWW := Lib.hid hWW
    have hL0 : Lst w1 w.heap.size w1.heap.size [] (some ⟨w.heap.size + 1, 0, none⟩) 0 0 := Lst.empty hG1.size (by omega) hE
    clear hz hWW hE
    go_wp2_with fail
    go_loopw [6, 8] (fun v s wr => ∃ (i k n cap : Nat) (ao : Option Addr) (A : List Int) (z : Int), i + 1 ≤ l.length ∧ s = .int .i64 z ∧ z = (i : Int) + 1 ∧ v = .slice ao n cap ∧ Lst wr w.heap.size w1.heap.size A ao n cap ∧ WayAt L W l i k A ∧ Gr w1 wr none) (fun _ s _ => l.length - (intOf s).toNat)
    case atStart => exact ⟨0, 0, 0, 0, _, [], 1, by omega, rfl, rfl, rfl, hL0, HS.out, Gr.refl _ _⟩
    case round =>
      obtain ⟨i, k, n, cap, ao, A, z, hi, rfl, hz, rfl, hLst, hA, hgr⟩ := hrel
      subst hz
      have hkL : k < L.length := hA.1
      have hgk : l[i]? = some (k : Int) := hA.2.1
      have hAl : n ≤ 1048576 := by have := hA.2.2.1; have := hLst.1; omega
      have HA := Lib.hid hA
      have HLst := Lib.hid hLst
      clear hL0 hLst hA c0
      by_cases hlt : i + 1 < l.length
      · have hil : i < l.length := by omega
        obtain ⟨b1, o1, e1, -, c1⟩ := (HW.out.gr0 hgr).at hil
        cases e1
        obtain ⟨b2, o2, e2, -, c2⟩ := (HW.out.gr0 hgr).at hlt
        cases e2
        rw [List.getElem?_eq_getElem hil] at hgk
        have hgk2 : l[i] = (k : Int) := by simpa using hgk
        rw [hgk2] at c1
        obtain ⟨b3, o3, rfl, hpt⟩ := (HP.out.gr hgr) k hkL
        obtain ⟨q, hq⟩ : ∃ q, L[k] = q := ⟨_, rfl⟩
        rw [hq] at hpt
        have hnq : nextOf L k = q.next := by rw [nextOf_get hkL, hq]
        have hnx : q.next.length ≤ 2 := by have := (HOK.out k (by rw [← HL.out]; exact hkL)).1; rw [← HL.out, hnq] at this; exact this
        obtain ⟨an, cn, -, -, -, -, f4, fI, hcn⟩ := hpt
        obtain ⟨t, ht⟩ : ∃ t, l[i + 1] = t := ⟨_, rfl⟩
        rw [ht] at c2
        have HNO := Lib.hid (fun h => HA.out.no hlt h)
        have HST := Lib.hid (fun h => HA.out.step (by rw [HL.out]; exact HOK.out) hlt h)
        rw [ht, hnq] at HNO HST
        have HCH := Lib.hid (show chOf L k t = if q.next.length = 2 then [if (q.next.getD 0 0 : Int) = t then 0 else 1] else [] by unfold chOf; rw [hnq])
        have hlz : (zs q.next).length ≤ 2 := by rw [zs_length]; omega
        have HQ2 := Lib.hid (fun (h : q.next.length = 2) => next_two h)
        rw [← zs_length] at f4
        have HFI := Lib.hid fI
        have HZL := Lib.hid (zs_length q.next)
        obtain ⟨N, hN⟩ : ∃ N, zs q.next = N := ⟨_, rfl⟩
        rw [hN] at f4 hlz HFI HNO HST HZL
        have HN := Lib.hid hN
        have hw1 : IntKind.i64.wrap ((i : Int) + 1 - 1) = (i : Int) := by rw [IntWalk.i64_in _ (by omega)]; omega
        have hw2 : IntKind.i64.wrap (i : Int) = (i : Int) := IntWalk.i64_in _ (by omega)
        have hidx : (0 : Int) ≤ (i : Int) + 1 ∧ (i : Int) + 1 < (l.length : Int) := by omega
        have hix2 : ((i : Int) + 1).toNat = i + 1 := by omega
        have HGR := Lib.hid hgr
        clear hgk hgk2 hq hnq ht fI hN hnx hcn hgr
        obtain ⟨hs, hhs⟩ : ∃ hs, decide (t ∈ N) = hs := ⟨_, rfl⟩
        have HIN := Lib.hid hhs
        clear hhs
        go_upto_region 8 with fail
        go_cut [48] (fun s wx => s = .bool (!hs) ∧ Gr wr wx none)
        case first =>
--<RA
          refine wp_region_held_drew (S := fun w' => Gr wr w' none) (by kernel_rfl) ((Gr.refl _ _).drew) (fun hHeld => ?_)
          refine wpAnyH_take (i := 0) (v := ?_) rfl (by kernel_rfl) (by kernel_rfl) (by kernel_rfl) (fun _ _ _ h => h) (Or.inl ⟨by rfl, ?_⟩) hHeld ?_
          rotate_left
          focus (intro wq hq; clear hq; go_simp; try with_reducible rfl)
          simp only [Act.put, List.getElem_toArray, List.getElem_cons_zero, List.setIfInBounds_toArray, List.set_cons_zero, List.set_cons_succ]
          refine wpAnyH_take (i := 1) (v := ?_) rfl (by kernel_rfl) (by kernel_rfl) (by kernel_rfl) (fun _ _ _ h => h) (Or.inl ⟨by rfl, ?_⟩) hHeld ?_
          rotate_left
          focus (intro wq hq; clear hq; go_simp; try with_reducible rfl)
          simp only [Act.put, List.getElem_toArray, List.getElem_cons_succ, List.getElem_cons_zero, List.setIfInBounds_toArray, List.set_cons_zero, List.set_cons_succ]
          refine wpAnyH_take (i := 2) (v := ?_) rfl (by kernel_rfl) (by kernel_rfl) (by kernel_rfl) (fun _ _ _ h => h) (Or.inl ⟨by rfl, ?_⟩) hHeld ?_
          rotate_left
          focus (intro wq hq; clear hq; go_simp; try with_reducible rfl)
          simp only [Act.put, List.getElem_toArray, List.getElem_cons_succ, List.getElem_cons_zero, List.setIfInBounds_toArray, List.set_cons_zero, List.set_cons_succ]
          refine wpAnyH_take (i := 3) (v := ?_) rfl (by kernel_rfl) (by kernel_rfl) (by kernel_rfl) (fun _ _ _ h => h) (Or.inl ⟨by rfl, ?_⟩) hHeld ?_
          rotate_left
          focus (intro wq hq; clear hq; go_simp; try with_reducible rfl)
          simp only [Act.put, List.getElem_toArray, List.getElem_cons_succ, List.getElem_cons_zero, List.setIfInBounds_toArray, List.set_cons_zero, List.set_cons_succ]
          refine wpAnyH_take (i := 4) (v := ?_) rfl (by kernel_rfl) (by kernel_rfl) (by kernel_rfl) (fun _ _ _ h => h) (Or.inl ⟨by rfl, ?_⟩) hHeld ?_
          rotate_left
          focus (intro wq hq; clear hq; go_simp; try with_reducible rfl)
          simp only [Act.put, List.getElem_toArray, List.getElem_cons_succ, List.getElem_cons_zero, List.setIfInBounds_toArray, List.set_cons_zero, List.set_cons_succ]
          refine wpAnyH_take (i := 5) (v := ?_) rfl (by kernel_rfl) (by kernel_rfl) (by kernel_rfl) (fun _ _ _ h => h) (Or.inl ⟨by rfl, ?_⟩) hHeld ?_
          rotate_left
          focus (intro wq hq; have k0 := hq.cell c1 (by simp); go_simp; try with_reducible rfl)
          simp only [Act.put, List.getElem_toArray, List.getElem_cons_succ, List.getElem_cons_zero, List.setIfInBounds_toArray, List.set_cons_zero, List.set_cons_succ]
          refine wpAnyH_take (i := 6) (v := ?_) rfl (by kernel_rfl) (by kernel_rfl) (by kernel_rfl) (fun _ _ _ h => h) (Or.inl ⟨by rfl, ?_⟩) hHeld ?_
          rotate_left
          focus (intro wq hq; clear hq; go_simp; try with_reducible rfl)
          simp only [Act.put, List.getElem_toArray, List.getElem_cons_succ, List.getElem_cons_zero, List.setIfInBounds_toArray, List.set_cons_zero, List.set_cons_succ]
          refine wpAnyH_take (i := 7) (v := ?_) rfl (by kernel_rfl) (by kernel_rfl) (by kernel_rfl) (fun _ _ _ h => h) (Or.inl ⟨by rfl, ?_⟩) hHeld ?_
          rotate_left
          focus (intro wq hq; clear hq; go_simp; try with_reducible rfl)
          simp only [Act.put, List.getElem_toArray, List.getElem_cons_succ, List.getElem_cons_zero, List.setIfInBounds_toArray, List.set_cons_zero, List.set_cons_succ]
          refine wpAnyH_take (i := 8) (v := ?_) rfl (by kernel_rfl) (by kernel_rfl) (by kernel_rfl) (fun _ _ _ h => h) (Or.inl ⟨by rfl, ?_⟩) hHeld ?_
          rotate_left
          focus (intro wq hq; have k0 := hq.cell f4 (by simp); go_simp; try with_reducible rfl)
          simp only [Act.put, List.getElem_toArray, List.getElem_cons_succ, List.getElem_cons_zero, List.setIfInBounds_toArray, List.set_cons_zero, List.set_cons_succ]
          refine wpAnyH_take (i := 9) (v := ?_) rfl (by kernel_rfl) (by kernel_rfl) (by kernel_rfl) (fun _ _ _ h => h) (Or.inl ⟨by rfl, ?_⟩) hHeld ?_
          rotate_left
          focus (intro wq hq; clear hq; go_simp; try with_reducible rfl)
          simp only [Act.put, List.getElem_toArray, List.getElem_cons_succ, List.getElem_cons_zero, List.setIfInBounds_toArray, List.set_cons_zero, List.set_cons_succ]
          refine wpAnyH_take (i := 10) (v := ?_) rfl (by kernel_rfl) (by kernel_rfl) (by kernel_rfl) (fun _ _ _ h => h) (Or.inl ⟨by rfl, ?_⟩) hHeld ?_
          rotate_left
          focus (intro wq hq; clear hq; go_simp; try with_reducible rfl)
          simp only [Act.put, List.getElem_toArray, List.getElem_cons_succ, List.getElem_cons_zero, List.setIfInBounds_toArray, List.set_cons_zero, List.set_cons_succ]
          refine wpAnyH_take (i := 11) (v := ?_) rfl (by kernel_rfl) (by kernel_rfl) (by kernel_rfl) (fun _ _ _ h => h) (Or.inl ⟨by rfl, ?_⟩) hHeld ?_
          rotate_left
          focus (intro wq hq; clear hq; go_simp; try with_reducible rfl)
          simp only [Act.put, List.getElem_toArray, List.getElem_cons_succ, List.getElem_cons_zero, List.setIfInBounds_toArray, List.set_cons_zero, List.set_cons_succ]
          refine wpAnyH_take (i := 12) (v := ?_) rfl (by kernel_rfl) (by kernel_rfl) (by kernel_rfl) (fun _ _ _ h => h) (Or.inl ⟨by rfl, ?_⟩) hHeld ?_
          rotate_left
          focus (intro wq hq; have k0 := hq.cell c2 (by simp); go_simp; try with_reducible rfl)
          simp only [Act.put, List.getElem_toArray, List.getElem_cons_succ, List.getElem_cons_zero, List.setIfInBounds_toArray, List.set_cons_zero, List.set_cons_succ]
          refine wpAnyH_ready (rs := [13]) (by kernel_rfl) (by simp) ?_
          refine AllReadyH.cons rfl (fun K hK => ?_) AllReadyH.nil
          go_simp
          refine (l2Has_any N t _ _ _ (HFI.out.gr0 hHeld) (by omega)).mono ?_
          rw [HIN.out]
          rintro e w5 ⟨rfl, rfl⟩
          try dsimp only
          refine hK.out _ _ (hHeld) (fun hHeld => ?_)
          clear hK K
          try simp only [Act.put, List.getElem_toArray, List.getElem_cons_succ, List.getElem_cons_zero, List.setIfInBounds_toArray, List.set_cons_zero, List.set_cons_succ]
          refine wpAnyH_take (i := 14) (v := ?_) rfl (by kernel_rfl) (by kernel_rfl) (by kernel_rfl) (fun _ _ _ h => h) (Or.inl ⟨by rfl, ?_⟩) hHeld ?_
          rotate_left
          focus (intro wq hq; clear hq; go_simp; try with_reducible rfl)
          simp only [Act.put, List.getElem_toArray, List.getElem_cons_succ, List.getElem_cons_zero, List.setIfInBounds_toArray, List.set_cons_zero, List.set_cons_succ]
          refine wpAnyH_done (by kernel_rfl) ?_ _
          go_wp2_with fail
          go_meet
          exact ⟨rfl, hHeld⟩
--RA>
        case rest =>
          rename World => wx
          obtain ⟨rfl, hgx⟩ := hcut
          have g4 := hgx.cell f4 (by simp)
          have g1 := hgx.cell c1 (by simp)
          have g2 := hgx.cell c2 (by simp)
          have HGX := Lib.hid hgx
          have hgw : Gr w1 wx none := HGR.out.trans0 hgx
          clear hgx f4 c1 c2
          cases hs with
          | false =>
            have HO := Lib.hid (HNO.out (by simpa using HIN.out))
            go_wp2_with fail
            go_ret2
            rw [HWW.out, HO.out]
            exact HandIOk.none _ _ (hG1.trans0 hgw)
          | true =>
            have HS2 := Lib.hid (HST.out (by simpa using HIN.out))
            by_cases h2 : N.length = 2
            · have h2' : ((N.length : Int) == 2) = true := by rw [h2]; rfl
              obtain ⟨ka, kb, hab⟩ := HQ2.out (by rw [← HZL.out]; exact h2)
              have HCH2 := Lib.hid (show chOf L k t = [if (ka : Int) = t then 0 else 1] by rw [HCH.out, hab]; simp)
              have hNab : N = [(ka : Int), (kb : Int)] := by rw [← HN.out, hab]; rfl
              obtain ⟨b9, o9, rfl, -, c9⟩ := (HFI.out.gr0 HGX.out).at (i := 0) (by omega)
              have hn0 : N[0]'(by omega) = (ka : Int) := by simp [hNab]
              rw [hn0] at c9
              simp only [Nat.add_zero] at c9
              have hpN : (0 : Int) < (N.length : Int) := by omega
              have hpN2 : 0 < N.length := by omega
              have hpN3 : N ≠ [] := List.length_pos_iff.1 hpN2
              obtain ⟨ne, hne⟩ : ∃ ne, ((ka : Int) != t) = ne := ⟨_, rfl⟩
              have HNE := Lib.hid hne
              clear hab hNab hn0 h2
              go_upto_region 12 with fail
              go_cut [76] (fun s wy => s = .bool ne ∧ Gr wx wy none)
              case first =>
--<RB
                refine wp_region_held_drew (S := fun w' => Gr wx w' none) (by kernel_rfl) ((Gr.refl _ _).drew) (fun hHeld => ?_)
                refine wpAnyH_take (i := 0) (v := ?_) rfl (by kernel_rfl) (by kernel_rfl) (by kernel_rfl) (fun _ _ _ h => h) (Or.inl ⟨by rfl, ?_⟩) hHeld ?_
                rotate_left
                focus (intro wq hq; clear hq; go_simp; try with_reducible rfl)
                simp only [Act.put, List.getElem_toArray, List.getElem_cons_zero, List.setIfInBounds_toArray, List.set_cons_zero, List.set_cons_succ]
                refine wpAnyH_take (i := 1) (v := ?_) rfl (by kernel_rfl) (by kernel_rfl) (by kernel_rfl) (fun _ _ _ h => h) (Or.inl ⟨by rfl, ?_⟩) hHeld ?_
                rotate_left
                focus (intro wq hq; clear hq; go_simp; try with_reducible rfl)
                simp only [Act.put, List.getElem_toArray, List.getElem_cons_succ, List.getElem_cons_zero, List.setIfInBounds_toArray, List.set_cons_zero, List.set_cons_succ]
                refine wpAnyH_take (i := 2) (v := ?_) rfl (by kernel_rfl) (by kernel_rfl) (by kernel_rfl) (fun _ _ _ h => h) (Or.inl ⟨by rfl, ?_⟩) hHeld ?_
                rotate_left
                focus (intro wq hq; clear hq; go_simp; try with_reducible rfl)
                simp only [Act.put, List.getElem_toArray, List.getElem_cons_succ, List.getElem_cons_zero, List.setIfInBounds_toArray, List.set_cons_zero, List.set_cons_succ]
                refine wpAnyH_take (i := 3) (v := ?_) rfl (by kernel_rfl) (by kernel_rfl) (by kernel_rfl) (fun _ _ _ h => h) (Or.inl ⟨by rfl, ?_⟩) hHeld ?_
                rotate_left
                focus (intro wq hq; clear hq; go_simp; try with_reducible rfl)
                simp only [Act.put, List.getElem_toArray, List.getElem_cons_succ, List.getElem_cons_zero, List.setIfInBounds_toArray, List.set_cons_zero, List.set_cons_succ]
                refine wpAnyH_take (i := 4) (v := ?_) rfl (by kernel_rfl) (by kernel_rfl) (by kernel_rfl) (fun _ _ _ h => h) (Or.inl ⟨by rfl, ?_⟩) hHeld ?_
                rotate_left
                focus (intro wq hq; clear hq; go_simp; try with_reducible rfl)
                simp only [Act.put, List.getElem_toArray, List.getElem_cons_succ, List.getElem_cons_zero, List.setIfInBounds_toArray, List.set_cons_zero, List.set_cons_succ]
                refine wpAnyH_take (i := 5) (v := ?_) rfl (by kernel_rfl) (by kernel_rfl) (by kernel_rfl) (fun _ _ _ h => h) (Or.inl ⟨by rfl, ?_⟩) hHeld ?_
                rotate_left
                focus (intro wq hq; have k0 := hq.cell g1 (by simp); go_simp; try with_reducible rfl)
                simp only [Act.put, List.getElem_toArray, List.getElem_cons_succ, List.getElem_cons_zero, List.setIfInBounds_toArray, List.set_cons_zero, List.set_cons_succ]
                refine wpAnyH_take (i := 6) (v := ?_) rfl (by kernel_rfl) (by kernel_rfl) (by kernel_rfl) (fun _ _ _ h => h) (Or.inl ⟨by rfl, ?_⟩) hHeld ?_
                rotate_left
                focus (intro wq hq; clear hq; go_simp; try with_reducible rfl)
                simp only [Act.put, List.getElem_toArray, List.getElem_cons_succ, List.getElem_cons_zero, List.setIfInBounds_toArray, List.set_cons_zero, List.set_cons_succ]
                refine wpAnyH_take (i := 7) (v := ?_) rfl (by kernel_rfl) (by kernel_rfl) (by kernel_rfl) (fun _ _ _ h => h) (Or.inl ⟨by rfl, ?_⟩) hHeld ?_
                rotate_left
                focus (intro wq hq; clear hq; go_simp; try with_reducible rfl)
                simp only [Act.put, List.getElem_toArray, List.getElem_cons_succ, List.getElem_cons_zero, List.setIfInBounds_toArray, List.set_cons_zero, List.set_cons_succ]
                refine wpAnyH_take (i := 8) (v := ?_) rfl (by kernel_rfl) (by kernel_rfl) (by kernel_rfl) (fun _ _ _ h => h) (Or.inl ⟨by rfl, ?_⟩) hHeld ?_
                rotate_left
                focus (intro wq hq; have k0 := hq.cell g4 (by simp); go_simp; try with_reducible rfl)
                simp only [Act.put, List.getElem_toArray, List.getElem_cons_succ, List.getElem_cons_zero, List.setIfInBounds_toArray, List.set_cons_zero, List.set_cons_succ]
                refine wpAnyH_take (i := 9) (v := ?_) rfl (by kernel_rfl) (by kernel_rfl) (by kernel_rfl) (fun _ _ _ h => h) (Or.inl ⟨by rfl, ?_⟩) hHeld ?_
                rotate_left
                focus (intro wq hq; clear hq; go_simp; try with_reducible rfl)
                simp only [Act.put, List.getElem_toArray, List.getElem_cons_succ, List.getElem_cons_zero, List.setIfInBounds_toArray, List.set_cons_zero, List.set_cons_succ]
                refine wpAnyH_take (i := 10) (v := ?_) rfl (by kernel_rfl) (by kernel_rfl) (by kernel_rfl) (fun _ _ _ h => h) (Or.inl ⟨by rfl, ?_⟩) hHeld ?_
                rotate_left
                focus (intro wq hq; have k0 := hq.cell c9 (by simp); go_simp; try with_reducible rfl)
                simp only [Act.put, List.getElem_toArray, List.getElem_cons_succ, List.getElem_cons_zero, List.setIfInBounds_toArray, List.set_cons_zero, List.set_cons_succ]
                refine wpAnyH_take (i := 11) (v := ?_) rfl (by kernel_rfl) (by kernel_rfl) (by kernel_rfl) (fun _ _ _ h => h) (Or.inl ⟨by rfl, ?_⟩) hHeld ?_
                rotate_left
                focus (intro wq hq; clear hq; go_simp; try with_reducible rfl)
                simp only [Act.put, List.getElem_toArray, List.getElem_cons_succ, List.getElem_cons_zero, List.setIfInBounds_toArray, List.set_cons_zero, List.set_cons_succ]
                refine wpAnyH_take (i := 12) (v := ?_) rfl (by kernel_rfl) (by kernel_rfl) (by kernel_rfl) (fun _ _ _ h => h) (Or.inl ⟨by rfl, ?_⟩) hHeld ?_
                rotate_left
                focus (intro wq hq; clear hq; go_simp; try with_reducible rfl)
                simp only [Act.put, List.getElem_toArray, List.getElem_cons_succ, List.getElem_cons_zero, List.setIfInBounds_toArray, List.set_cons_zero, List.set_cons_succ]
                refine wpAnyH_take (i := 13) (v := ?_) rfl (by kernel_rfl) (by kernel_rfl) (by kernel_rfl) (fun _ _ _ h => h) (Or.inl ⟨by rfl, ?_⟩) hHeld ?_
                rotate_left
                focus (intro wq hq; clear hq; go_simp; try with_reducible rfl)
                simp only [Act.put, List.getElem_toArray, List.getElem_cons_succ, List.getElem_cons_zero, List.setIfInBounds_toArray, List.set_cons_zero, List.set_cons_succ]
                refine wpAnyH_take (i := 14) (v := ?_) rfl (by kernel_rfl) (by kernel_rfl) (by kernel_rfl) (fun _ _ _ h => h) (Or.inl ⟨by rfl, ?_⟩) hHeld ?_
                rotate_left
                focus (intro wq hq; have k0 := hq.cell g2 (by simp); go_simp; try with_reducible rfl)
                simp only [Act.put, List.getElem_toArray, List.getElem_cons_succ, List.getElem_cons_zero, List.setIfInBounds_toArray, List.set_cons_zero, List.set_cons_succ]
                refine wpAnyH_take (i := 15) (v := ?_) rfl (by kernel_rfl) (by kernel_rfl) (by kernel_rfl) (fun _ _ _ h => h) (Or.inl ⟨by rfl, ?_⟩) hHeld ?_
                rotate_left
                focus (intro wq hq; clear hq; go_simp; try with_reducible rfl)
                simp only [Act.put, List.getElem_toArray, List.getElem_cons_succ, List.getElem_cons_zero, List.setIfInBounds_toArray, List.set_cons_zero, List.set_cons_succ]
                refine wpAnyH_done (by kernel_rfl) ?_ _
                go_wp2_with fail
                go_meet
                exact ⟨by first | rfl | rw [hne], hHeld⟩
--RB>
              case rest =>
                rename World => wy
                obtain ⟨rfl, hgy⟩ := hcut
                have HGw := Lib.hid (hgw.trans0 hgy)
                have HLY := Lib.hid (HLst.out.gr (HGX.out.trans0 hgy))
                have HCH3 := Lib.hid (show chOf L k t = [if ne = true then 1 else 0] by
                  rw [HCH2.out, ← HNE.out]
                  by_cases e : (ka : Int) = t
                  · simp [e]
                  · simp [e])
                clear hgy hgw g1 g2 g4 c9 hne
                cases ne with
                | true =>
                  go_wp2_with (at_builtin; refine app_l wy _ rfl (.tmp 77) (.tmp 79) rfl w.heap.size w1.heap.size ao cap n _ 1 rfl HLY.out ((Gr.refl _ _).alloc _) wy.heap.size 1 rfl (cell_of_row _ _ _ _ _ _ (heap1_0 _ _)) (by omega) HGw.out.size ?_; rintro g cap2 w9 hL9 hg9)
                  obtain ⟨j, hj, hA2⟩ := HS2.out
                  rw [HCH3.out] at hA2
                  go_roundw
                  case rel => exact ⟨i + 1, j, n + 1, cap2, some ⟨g, 0, none⟩, _, _, by omega, rfl, by omega, rfl, hL9, hA2, hg9 _ (HGw.out.alloc _) (Nat.le_refl _)⟩
                  case measure => simp [intOf]; omega
                | false =>
                  go_wp2_with (at_builtin; refine app_l wy _ rfl (.tmp 77) (.tmp 79) rfl w.heap.size w1.heap.size ao cap n _ 0 rfl HLY.out ((Gr.refl _ _).alloc _) wy.heap.size 1 rfl (cell_of_row _ _ _ _ _ _ (heap1_0 _ _)) (by omega) HGw.out.size ?_; rintro g cap2 w9 hL9 hg9)
                  obtain ⟨j, hj, hA2⟩ := HS2.out
                  rw [HCH3.out] at hA2
                  go_roundw
                  case rel => exact ⟨i + 1, j, n + 1, cap2, some ⟨g, 0, none⟩, _, _, by omega, rfl, by omega, rfl, hL9, hA2, hg9 _ (HGw.out.alloc _) (Nat.le_refl _)⟩
                  case measure => simp [intOf]; omega
            · have h2' : ((N.length : Int) == 2) = false := beq_eq_false_iff_ne.2 (by omega)
              have HCH3 := Lib.hid (show chOf L k t = [] by rw [HCH.out, if_neg (by rw [← HZL.out]; exact h2)])
              clear h2
              go_wp2_with fail
              obtain ⟨j, hj, hA2⟩ := HS2.out
              rw [HCH3.out, List.append_nil] at hA2
              go_roundw
              case rel => exact ⟨i + 1, j, n, cap, ao, A, _, by omega, rfl, by omega, rfl, HLst.out.gr HGX.out, hA2, hgw⟩
              case measure => simp [intOf]; omega
      · have hil : l.length = i + 1 := by omega
        have HLA := Lib.hid (HA.out.last hil.symm)
        clear hgk
        go_wp2_with fail
        go_ret2
        rw [HWW.out, HLA.out]
        exact (HLst.out.hand rfl (hG1.trans0 hgr)).ok true HLst.out.cap
  · have HO := Lib.hid (wayOf_bad (p := p) hpos hz)
    have hz' : (l[0] != 0) = true := by simpa using hz
    obtain ⟨y, hy⟩ : ∃ y, l[0] = y := ⟨_, rfl⟩
    rw [hy] at c0 hz'
    clear hz hy
    go_wp2_with fail
    go_ret2
    rw [HO.out]
    exact HandIOk.none _ _ hG1
end Go.Proofs.Ytdnhinkjmjpnnaa

/- The law FnForwardCount: the walk of the law's own function. -/
import Derived.Test.YtdnhinkjmjpnnaaFT

import Derived.Test.YtdnhinkjmjpnnaaB24

namespace Go.Proofs.Ytdnhinkjmjpnnaa

open Go.RowKit

/-- The program p lies in the two cells of block b. -/
def PrW (u : World) (b : Nat) (p : Pr) (at' ab : Option Addr) (ct cb : Nat) : Prop :=
  u.cell? ⟨b, 0, none⟩ = some (.slice at' p.types.length ct) ∧ u.cell? ⟨b, 1, none⟩ = some (.slice ab p.body.length cb) ∧ InAt u Any p.types at' ∧ SlAt u Any p.body ab
theorem PrW.gr {u u' : World} {b : Nat} {p : Pr} {at' ab : Option Addr} {ct cb : Nat} (h : PrW u b p at' ab ct cb) (hg : Gr u u' none) : PrW u' b p at' ab ct cb :=
  ⟨hg.cell h.1 (by simp), hg.cell h.2.1 (by simp), h.2.2.1.gr0 hg, h.2.2.2.gr0 hg⟩
theorem PrW.new {u : World} {p : Pr} {at' ab : Option Addr} {ct cb : Nat} (hT : InAt u Any p.types at') (hB : SlAt u Any p.body ab) :
    PrW (u.alloc (.cells #[.slice at' p.types.length ct, .slice ab p.body.length cb] 30)) u.heap.size p at' ab ct cb :=
  ⟨cell_of_row _ _ _ _ _ _ (heap1_0 _ _), cell_of_row _ _ _ _ _ _ (heap1_0 _ _), hT.gr0 ((Gr.refl _ _).alloc _), hB.gr0 ((Gr.refl _ _).alloc _)⟩
set_option maxRecDepth 100000 in
set_option maxHeartbeats 8000000 in
theorem fnForwardCount_walk (a : Option Addr) (n c : Nat) (w : World) (h : BytesIn w a n) (hc : n ≤ c) (hm : n ≤ maxLen) :
    Calls Try.prog 15 #[.slice a n c] w fun e w' => e = .returned (.bool true) ∧ Gr w w' none := by
  unfold maxLen at hm
  by_cases hbig : 1048576 < n
  · go_enter Try.func15, Try.ntmps15
    go_wp2
    go_ret
    exact ⟨rfl, Gr.refl _ _⟩
  · go_enter Try.func15, Try.ntmps15
    go_wp2_with fail
    refine (fwdD_any a n c w h hc (by omega)).mono ?_
    rintro e w1 ⟨p, v0, v1, k, rfl, ⟨at', ab, ct, cb, rfl, rfl, hT, hB, ht, hcn⟩, hk1, hk2, hg1⟩
    have hlb := count_length p.body
    have hQ := PrW.new (ct := ct) (cb := cb) (hT.mono (fun _ _ _ => trivial) (fun _ _ _ _ h => h)) (hB.sub fun _ _ _ => trivial)
    have hgA := hg1.alloc (.cells #[.slice at' p.types.length ct, .slice ab p.body.length cb] 30)
    clear hT hB hg1 h
    obtain ⟨wA, hwA⟩ : ∃ wA : World, wA = w1.alloc (.cells #[.slice at' p.types.length ct, .slice ab p.body.length cb] 30) := ⟨_, rfl⟩
    go_upto_region 4 with fail
    rw [← hwA] at hQ hgA ⊢
    clear hwA
    have HQ := Lib.hid hQ
    have HG := Lib.hid hgA
    have q0 := hQ.1
    have q1 := hQ.2.1
    have hsm := fwdOf_small p k
    have HLAW := Lib.hid (fwdOf_law (p := p) (k := k))
    obtain ⟨q, hq⟩ : ∃ q, (fwdOf p k).1 = q := ⟨_, rfl⟩
    obtain ⟨b, hb⟩ : ∃ b, (fwdOf p k).2 = b := ⟨_, rfl⟩
    rw [hq] at hsm HLAW
    rw [hb] at HLAW
    have HF := Lib.hid (show (fwdOf p k).1 = q ∧ (fwdOf p k).2 = b from ⟨hq, hb⟩)
    have hlq := count_length q.body
    clear hQ hgA hq hb
    go_wp2_with fail
    refine (implForwardLoad_any p k at' ab ct cb _ HQ.out.2.2.1 HQ.out.2.2.2 (by omega) (by omega)).mono ?_
    rw [HF.out.1, HF.out.2]
    rintro e w2 ⟨a2, b2, c2, d2, rfl, hT2, hB2, hg2⟩
    have HQ2 := Lib.hid (HQ.out.gr (hg2.alloc (.cells #[.slice a2 q.types.length c2, .slice b2 q.body.length d2] 30)))
    have HG2 := Lib.hid (HG.out.trans0 (hg2.alloc (.cells #[.slice a2 q.types.length c2, .slice b2 q.body.length d2] 30)))
    have HP2 := Lib.hid (PrW.new (ct := c2) (cb := d2) hT2 hB2)
    clear q0 q1 hT2 hB2 hg2 HQ HG
    go_upto_region 5 with fail
    obtain ⟨wB, hwB⟩ : ∃ wB : World, wB = w2.alloc (.cells #[.slice a2 q.types.length c2, .slice b2 q.body.length d2] 30) := ⟨_, rfl⟩
    rw [← hwB] at HQ2 HG2 HP2 ⊢
    clear hwB
    have q0 := HQ2.out.1
    have q1 := HQ2.out.2.1
    go_wp2_with fail
    refine (specForwardLoad_any p k at' ab ct cb _ HQ2.out.2.2.1 HQ2.out.2.2.2 (by omega) (by omega)).mono ?_
    rw [HF.out.1, HF.out.2]
    rintro e w3 ⟨a3, b3, c3, d3, rfl, hT3, hB3, hg3⟩
    have hgC := hg3.alloc (.cells #[.slice a3 q.types.length c3, .slice b3 q.body.length d3] 30)
    have HQ3 := Lib.hid (HQ2.out.gr hgC)
    have HG3 := Lib.hid (HG2.out.trans0 hgC)
    have HP3 := Lib.hid (HP2.out.gr hgC)
    have HR3 := Lib.hid (PrW.new (ct := c3) (cb := d3) hT3 hB3)
    clear q0 q1 hT3 hB3 hg3 HQ2 HG2 HP2 hgC
    go_upto_region 6 with fail
    obtain ⟨wC, hwC⟩ : ∃ wC : World, wC = w3.alloc (.cells #[.slice a3 q.types.length c3, .slice b3 q.body.length d3] 30) := ⟨_, rfl⟩
    rw [← hwC] at HQ3 HG3 HP3 HR3 ⊢
    clear hwC
    have q0 := HP3.out.1
    have q1 := HP3.out.2.1
    have r0 := HR3.out.1
    have r1 := HR3.out.2.1
    cases b with
    | false =>
      go_wp2_with fail
      refine (programSame_any q a2 b2 a3 b3 c2 d2 c3 d3 _ HP3.out.2.2.1 HP3.out.2.2.2 HR3.out.2.2.1 HR3.out.2.2.2 (by omega) (by omega)).mono ?_
      rintro e w4 ⟨rfl, hg4⟩
      have HP4 := Lib.hid (HP3.out.gr hg4)
      have HR4 := Lib.hid (HR3.out.gr hg4)
      have HG4 := Lib.hid (HG3.out.trans0 hg4)
      clear q0 q1 r0 r1 hg4
      have q0 := HP4.out.1
      have q1 := HP4.out.2.1
      have r0 := HR4.out.1
      have r1 := HR4.out.2.1
      go_wp2_with fail
      refine (programSame_any q a2 b2 a3 b3 c2 d2 c3 d3 _ HP4.out.2.2.1 HP4.out.2.2.2 HR4.out.2.2.1 HR4.out.2.2.2 (by omega) (by omega)).mono ?_
      rintro e w5 ⟨rfl, hg5⟩
      go_wp2_with fail
      go_ret
      exact ⟨rfl, HG4.out.trans0 hg5⟩
    | true =>
      obtain ⟨hv, hpt, hln, hag⟩ := HLAW.out rfl
      have HV := Lib.hid hv
      have HPT := Lib.hid hpt
      have HLN := Lib.hid hln
      have HAG := Lib.hid hag
      clear hv hpt hln hag
      go_wp2_with fail
      refine (programSame_any q a2 b2 a3 b3 c2 d2 c3 d3 _ HP3.out.2.2.1 HP3.out.2.2.2 HR3.out.2.2.1 HR3.out.2.2.2 (by omega) (by omega)).mono ?_
      rintro e w4 ⟨rfl, hg4⟩
      have HP4 := Lib.hid (HP3.out.gr hg4)
      have HQ4 := Lib.hid (HQ3.out.gr hg4)
      have HG4 := Lib.hid (HG3.out.trans0 hg4)
      clear q0 q1 r0 r1 hg4
      have q0 := HP4.out.1
      have q1 := HP4.out.2.1
      go_wp2_with fail
      refine (implForwardLoad_any q k a2 b2 c2 d2 _ HP4.out.2.2.1 HP4.out.2.2.2 (by omega) (by omega)).mono ?_
      rw [HAG.out]
      rintro e w5 ⟨a5, b5, c5, d5, rfl, -, -, hg5⟩
      have hgD : Gr w4 (w5.alloc (.cells #[.slice a5 0 c5, .slice b5 0 d5] 30)) none := hg5.alloc _
      have HP5 := Lib.hid (HP4.out.gr hgD)
      have HQ5 := Lib.hid (HQ4.out.gr hgD)
      have HG5 := Lib.hid (HG4.out.trans0 hgD)
      clear q0 q1 hgD hg5
      go_upto_region 9 with fail
      obtain ⟨wD, hwD⟩ : ∃ wD : World, wD = w5.alloc (.cells #[.slice a5 0 c5, .slice b5 0 d5] 30) := ⟨_, rfl⟩
      rw [← hwD] at HP5 HQ5 HG5 ⊢
      clear hwD
      have q0 := HP5.out.1
      have q1 := HP5.out.2.1
      have p0 := HQ5.out.1
      have p1 := HQ5.out.2.1
      obtain ⟨N1, hN1⟩ : ∃ N1, (ptsOf p).length = N1 := ⟨_, rfl⟩
      obtain ⟨N2, hN2⟩ : ∃ N2, (loansOf p).length = N2 := ⟨_, rfl⟩
      have HN1 := Lib.hid hN1
      have HN2 := Lib.hid hN2
      clear hN1 hN2
--<RA
      refine wp_region_held_drew (S := fun w' => Gr wD w' none) (by kernel_rfl) ((Gr.refl _ _).drew) (fun hHeld => ?_)
      refine wpAnyH_take (i := 0) (v := ?_) rfl (by kernel_rfl) (by kernel_rfl) (by kernel_rfl) (fun _ _ _ h => h) (Or.inl ⟨by rfl, ?_⟩) hHeld ?_
      rotate_left
      focus (intro wq hq; clear hq; go_simp; try with_reducible rfl)
      simp only [Act.put, List.getElem_toArray, List.getElem_cons_zero, List.setIfInBounds_toArray, List.set_cons_zero, List.set_cons_succ]
      refine wpAnyH_take (i := 1) (v := ?_) rfl (by kernel_rfl) (by kernel_rfl) (by kernel_rfl) (fun _ _ _ h => h) (Or.inl ⟨by rfl, ?_⟩) hHeld ?_
      rotate_left
      focus (intro wq hq; clear hq; go_simp; try with_reducible rfl)
      simp only [Act.put, List.getElem_toArray, List.getElem_cons_succ, List.getElem_cons_zero, List.setIfInBounds_toArray, List.set_cons_zero, List.set_cons_succ]
      refine wpAnyH_take (i := 2) (v := ?_) rfl (by kernel_rfl) (by kernel_rfl) (by kernel_rfl) (fun _ _ _ h => h) (Or.inl ⟨by rfl, ?_⟩) hHeld ?_
      rotate_left
      focus (intro wq hq; clear hq; go_simp; try with_reducible rfl)
      simp only [Act.put, List.getElem_toArray, List.getElem_cons_succ, List.getElem_cons_zero, List.setIfInBounds_toArray, List.set_cons_zero, List.set_cons_succ]
      refine wpAnyH_take (i := 3) (v := ?_) rfl (by kernel_rfl) (by kernel_rfl) (by kernel_rfl) (fun _ _ _ h => h) (Or.inl ⟨by rfl, ?_⟩) hHeld ?_
      rotate_left
      focus (intro wq hq; have k0 := hq.cell q0 (by simp); have k1 := hq.cell q1 (by simp); go_simp; try with_reducible rfl)
      simp only [Act.put, List.getElem_toArray, List.getElem_cons_succ, List.getElem_cons_zero, List.setIfInBounds_toArray, List.set_cons_zero, List.set_cons_succ]
      refine wpAnyH_take (i := 6) (v := ?_) rfl (by kernel_rfl) (by kernel_rfl) (by kernel_rfl) (fun _ _ _ h => h) (Or.inl ⟨by rfl, ?_⟩) hHeld ?_
      rotate_left
      focus (intro wq hq; have k0 := hq.cell p0 (by simp); have k1 := hq.cell p1 (by simp); go_simp; try with_reducible rfl)
      simp only [Act.put, List.getElem_toArray, List.getElem_cons_succ, List.getElem_cons_zero, List.setIfInBounds_toArray, List.set_cons_zero, List.set_cons_succ]
      refine wpAnyH_ready (rs := [4]) (by kernel_rfl) (by simp) ?_
      refine AllReadyH.cons rfl (fun K hK => ?_) AllReadyH.nil
      go_simp
      refine (implPointsOf_any q a2 b2 c2 d2 _ (HP5.out.2.2.1.gr0 hHeld) (HP5.out.2.2.2.gr0 hHeld) (by omega) (by omega)).mono ?_
      rintro e w6 ⟨M, m1, e1, hM, rfl, -, hg⟩
      have hl : M.length = N1 := by rw [hM, HPT.out]; exact HN1.out
      clear hM
      rw [hl]
      clear hl
      try dsimp only
      refine hK.out _ _ (hHeld.trans0 hg) (fun hHeld => ?_)
      clear hK K
      try simp only [Act.put, List.getElem_toArray, List.getElem_cons_succ, List.getElem_cons_zero, List.setIfInBounds_toArray, List.set_cons_zero, List.set_cons_succ]
      refine wpAnyH_take (i := 5) (v := ?_) rfl (by kernel_rfl) (by kernel_rfl) (by kernel_rfl) (fun _ _ _ h => h) (Or.inl ⟨by rfl, ?_⟩) hHeld ?_
      rotate_left
      focus (intro wq hq; clear hq; go_simp; try with_reducible rfl)
      simp only [Act.put, List.getElem_toArray, List.getElem_cons_succ, List.getElem_cons_zero, List.setIfInBounds_toArray, List.set_cons_zero, List.set_cons_succ]
      refine wpAnyH_ready (rs := [7]) (by kernel_rfl) (by simp) ?_
      refine AllReadyH.cons rfl (fun K hK => ?_) AllReadyH.nil
      go_simp
      refine (implPointsOf_any p at' ab ct cb _ (HQ5.out.2.2.1.gr0 hHeld) (HQ5.out.2.2.2.gr0 hHeld) (by omega) (by omega)).mono ?_
      rintro e w7 ⟨M, m1, e1, hM, rfl, -, hg⟩
      have hl : M.length = N1 := by rw [hM]; exact HN1.out
      clear hM
      rw [hl]
      clear hl
      try dsimp only
      refine hK.out _ _ (hHeld.trans0 hg) (fun hHeld => ?_)
      clear hK K
      try simp only [Act.put, List.getElem_toArray, List.getElem_cons_succ, List.getElem_cons_zero, List.setIfInBounds_toArray, List.set_cons_zero, List.set_cons_succ]
      refine wpAnyH_take (i := 8) (v := ?_) rfl (by kernel_rfl) (by kernel_rfl) (by kernel_rfl) (fun _ _ _ h => h) (Or.inl ⟨by rfl, ?_⟩) hHeld ?_
      rotate_left
      focus (intro wq hq; clear hq; go_simp; try with_reducible rfl)
      simp only [Act.put, List.getElem_toArray, List.getElem_cons_succ, List.getElem_cons_zero, List.setIfInBounds_toArray, List.set_cons_zero, List.set_cons_succ]
      refine wpAnyH_take (i := 9) (v := ?_) rfl (by kernel_rfl) (by kernel_rfl) (by kernel_rfl) (fun _ _ _ h => h) (Or.inl ⟨by rfl, ?_⟩) hHeld ?_
      rotate_left
      focus (intro wq hq; clear hq; go_simp; try with_reducible rfl)
      simp only [Act.put, List.getElem_toArray, List.getElem_cons_succ, List.getElem_cons_zero, List.setIfInBounds_toArray, List.set_cons_zero, List.set_cons_succ]
      refine wpAnyH_take (i := 10) (v := ?_) rfl (by kernel_rfl) (by kernel_rfl) (by kernel_rfl) (fun _ _ _ h => h) (Or.inl ⟨by rfl, ?_⟩) hHeld ?_
      rotate_left
      focus (intro wq hq; clear hq; go_simp; try with_reducible rfl)
      simp only [Act.put, List.getElem_toArray, List.getElem_cons_succ, List.getElem_cons_zero, List.setIfInBounds_toArray, List.set_cons_zero, List.set_cons_succ]
      refine wpAnyH_take (i := 11) (v := ?_) rfl (by kernel_rfl) (by kernel_rfl) (by kernel_rfl) (fun _ _ _ h => h) (Or.inl ⟨by rfl, ?_⟩) hHeld ?_
      rotate_left
      focus (intro wq hq; clear hq; go_simp; try with_reducible rfl)
      simp only [Act.put, List.getElem_toArray, List.getElem_cons_succ, List.getElem_cons_zero, List.setIfInBounds_toArray, List.set_cons_zero, List.set_cons_succ]
      refine wpAnyH_take (i := 12) (v := ?_) rfl (by kernel_rfl) (by kernel_rfl) (by kernel_rfl) (fun _ _ _ h => h) (Or.inl ⟨by rfl, ?_⟩) hHeld ?_
      rotate_left
      focus (intro wq hq; have k0 := hq.cell q0 (by simp); have k1 := hq.cell q1 (by simp); go_simp; try with_reducible rfl)
      simp only [Act.put, List.getElem_toArray, List.getElem_cons_succ, List.getElem_cons_zero, List.setIfInBounds_toArray, List.set_cons_zero, List.set_cons_succ]
      refine wpAnyH_take (i := 15) (v := ?_) rfl (by kernel_rfl) (by kernel_rfl) (by kernel_rfl) (fun _ _ _ h => h) (Or.inl ⟨by rfl, ?_⟩) hHeld ?_
      rotate_left
      focus (intro wq hq; have k0 := hq.cell p0 (by simp); have k1 := hq.cell p1 (by simp); go_simp; try with_reducible rfl)
      simp only [Act.put, List.getElem_toArray, List.getElem_cons_succ, List.getElem_cons_zero, List.setIfInBounds_toArray, List.set_cons_zero, List.set_cons_succ]
      refine wpAnyH_ready (rs := [13]) (by kernel_rfl) (by simp) ?_
      refine AllReadyH.cons rfl (fun K hK => ?_) AllReadyH.nil
      go_simp
      refine (implLoansOf_any q a2 b2 c2 d2 _ (HP5.out.2.2.1.gr0 hHeld) (HP5.out.2.2.2.gr0 hHeld) (by omega) (by omega)).mono ?_
      rintro e w8 ⟨m1, e1, rfl, -, -, -, hg⟩
      have hl : (loansOf q).length = N2 := by rw [HLN.out]; exact HN2.out
      rw [hl]
      clear hl
      try dsimp only
      refine hK.out _ _ (hHeld.trans0 hg) (fun hHeld => ?_)
      clear hK K
      try simp only [Act.put, List.getElem_toArray, List.getElem_cons_succ, List.getElem_cons_zero, List.setIfInBounds_toArray, List.set_cons_zero, List.set_cons_succ]
      refine wpAnyH_take (i := 14) (v := ?_) rfl (by kernel_rfl) (by kernel_rfl) (by kernel_rfl) (fun _ _ _ h => h) (Or.inl ⟨by rfl, ?_⟩) hHeld ?_
      rotate_left
      focus (intro wq hq; clear hq; go_simp; try with_reducible rfl)
      simp only [Act.put, List.getElem_toArray, List.getElem_cons_succ, List.getElem_cons_zero, List.setIfInBounds_toArray, List.set_cons_zero, List.set_cons_succ]
      refine wpAnyH_ready (rs := [16]) (by kernel_rfl) (by simp) ?_
      refine AllReadyH.cons rfl (fun K hK => ?_) AllReadyH.nil
      go_simp
      refine (implLoansOf_any p at' ab ct cb _ (HQ5.out.2.2.1.gr0 hHeld) (HQ5.out.2.2.2.gr0 hHeld) (by omega) (by omega)).mono ?_
      rintro e w9 ⟨m1, e1, rfl, -, -, -, hg⟩
      have hl : (loansOf p).length = N2 := by exact HN2.out
      rw [hl]
      clear hl
      try dsimp only
      refine hK.out _ _ (hHeld.trans0 hg) (fun hHeld => ?_)
      clear hK K
      try simp only [Act.put, List.getElem_toArray, List.getElem_cons_succ, List.getElem_cons_zero, List.setIfInBounds_toArray, List.set_cons_zero, List.set_cons_succ]
      refine wpAnyH_take (i := 17) (v := ?_) rfl (by kernel_rfl) (by kernel_rfl) (by kernel_rfl) (fun _ _ _ h => h) (Or.inl ⟨by rfl, ?_⟩) hHeld ?_
      rotate_left
      focus (intro wq hq; clear hq; go_simp; try with_reducible rfl)
      simp only [Act.put, List.getElem_toArray, List.getElem_cons_succ, List.getElem_cons_zero, List.setIfInBounds_toArray, List.set_cons_zero, List.set_cons_succ]
      refine wpAnyH_take (i := 18) (v := ?_) rfl (by kernel_rfl) (by kernel_rfl) (by kernel_rfl) (fun _ _ _ h => h) (Or.inl ⟨by rfl, ?_⟩) hHeld ?_
      rotate_left
      focus (intro wq hq; clear hq; go_simp; try with_reducible rfl)
      simp only [Act.put, List.getElem_toArray, List.getElem_cons_succ, List.getElem_cons_zero, List.setIfInBounds_toArray, List.set_cons_zero, List.set_cons_succ]
      refine wpAnyH_take (i := 19) (v := ?_) rfl (by kernel_rfl) (by kernel_rfl) (by kernel_rfl) (fun _ _ _ h => h) (Or.inl ⟨by rfl, ?_⟩) hHeld ?_
      rotate_left
      focus (intro wq hq; clear hq; go_simp; try with_reducible rfl)
      simp only [Act.put, List.getElem_toArray, List.getElem_cons_succ, List.getElem_cons_zero, List.setIfInBounds_toArray, List.set_cons_zero, List.set_cons_succ]
      refine wpAnyH_take (i := 20) (v := ?_) rfl (by kernel_rfl) (by kernel_rfl) (by kernel_rfl) (fun _ _ _ h => h) (Or.inl ⟨by rfl, ?_⟩) hHeld ?_
      rotate_left
      focus (intro wq hq; clear hq; go_simp; try with_reducible rfl)
      simp only [Act.put, List.getElem_toArray, List.getElem_cons_succ, List.getElem_cons_zero, List.setIfInBounds_toArray, List.set_cons_zero, List.set_cons_succ]
      refine wpAnyH_take (i := 21) (v := ?_) rfl (by kernel_rfl) (by kernel_rfl) (by kernel_rfl) (fun _ _ _ h => h) (Or.inl ⟨by rfl, ?_⟩) hHeld ?_
      rotate_left
      focus (intro wq hq; have k0 := hq.cell q0 (by simp); have k1 := hq.cell q1 (by simp); go_simp; try with_reducible rfl)
      simp only [Act.put, List.getElem_toArray, List.getElem_cons_succ, List.getElem_cons_zero, List.setIfInBounds_toArray, List.set_cons_zero, List.set_cons_succ]
      refine wpAnyH_ready (rs := [22]) (by kernel_rfl) (by simp) ?_
      refine AllReadyH.cons rfl (fun K hK => ?_) AllReadyH.nil
      go_simp
      refine (valid_any q a2 b2 c2 d2 _ (HP5.out.2.2.1.gr0 hHeld) (HP5.out.2.2.2.gr0 hHeld) (by omega) (by omega)).mono ?_
      rw [HV.out]
      rintro e w10 ⟨rfl, hg⟩
      try dsimp only
      refine hK.out _ _ (hHeld.trans0 hg) (fun hHeld => ?_)
      clear hK K
      try simp only [Act.put, List.getElem_toArray, List.getElem_cons_succ, List.getElem_cons_zero, List.setIfInBounds_toArray, List.set_cons_zero, List.set_cons_succ]
      refine wpAnyH_take (i := 23) (v := ?_) rfl (by kernel_rfl) (by kernel_rfl) (by kernel_rfl) (fun _ _ _ h => h) (Or.inl ⟨by rfl, ?_⟩) hHeld ?_
      rotate_left
      focus (intro wq hq; clear hq; go_simp; try with_reducible rfl)
      simp only [Act.put, List.getElem_toArray, List.getElem_cons_succ, List.getElem_cons_zero, List.setIfInBounds_toArray, List.set_cons_zero, List.set_cons_succ]
      refine wpAnyH_take (i := 24) (v := ?_) rfl (by kernel_rfl) (by kernel_rfl) (by kernel_rfl) (fun _ _ _ h => h) (Or.inl ⟨by rfl, ?_⟩) hHeld ?_
      rotate_left
      focus (intro wq hq; clear hq; go_simp; try with_reducible rfl)
      simp only [Act.put, List.getElem_toArray, List.getElem_cons_succ, List.getElem_cons_zero, List.setIfInBounds_toArray, List.set_cons_zero, List.set_cons_succ]
      refine wpAnyH_done (by kernel_rfl) ?_ _
      go_wp2_with fail
      go_ret
      exact ⟨rfl, HG5.out.trans0 hHeld⟩
--RA>
end Go.Proofs.Ytdnhinkjmjpnnaa

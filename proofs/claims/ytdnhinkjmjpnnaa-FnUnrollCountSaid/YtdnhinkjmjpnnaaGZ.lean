/- The law FnUnrollCount: the walk of the law's own function. -/
import Derived.Test.YtdnhinkjmjpnnaaGY

import Derived.Test.YtdnhinkjmjpnnaaB25

import Derived.Test.YtdnhinkjmjpnnaaFE

namespace Go.Proofs.Ytdnhinkjmjpnnaa

open Go.RowKit

/-- The program p lies in the two cells of block b. -/
def PrW (u : World) (b : Nat) (p : Pr) (at' ab : Option Addr) (ct cb : Nat) : Prop :=
  u.cell? ⟨b, 0, none⟩ = some (.slice at' p.types.length ct) ∧ u.cell? ⟨b, 1, none⟩ = some (.slice ab p.body.length cb) ∧ InAt u Any p.types at' ∧ SlAt u Any p.body ab
theorem PrW.gr {u u' : World} {b : Nat} {p : Pr} {at' ab : Option Addr} {ct cb : Nat} (h : PrW u b p at' ab ct cb) (hg : Gr u u' none) : PrW u' b p at' ab ct cb :=
  ⟨hg.cell h.1 (by simp), hg.cell h.2.1 (by simp), h.2.2.1.gr0 hg, h.2.2.2.gr0 hg⟩
theorem PrW.new {u : World} {p : Pr} {at' ab : Option Addr} {ct cb : Nat} (hT : InAt u Any p.types at') (hB : SlAt u Any p.body ab) :
    PrW (u.alloc (.cells #[.slice at' p.types.length ct, .slice ab p.body.length cb] 30)) u.heap.size p at' ab ct cb :=
  ⟨cell_of_row _ _ _ _ _ _ (heap1_0 _ _), cell_of_row _ _ _ _ _ _ (heap1_0 _ _), hT.gr0 ((Gr.refl _ _).alloc _), hB.gr0 ((Gr.refl _ _).alloc _)⟩
set_option maxRecDepth 100000 in
set_option maxHeartbeats 8000000 in
theorem fnUnrollCount_walk (a : Option Addr) (n c : Nat) (w : World) (h : BytesIn w a n) (hc : n ≤ c) (hm : n ≤ maxLen) :
    Calls Try.prog 16 #[.slice a n c] w fun e w' => e = .returned (.bool true) ∧ Gr w w' none := by
  unfold maxLen at hm
  by_cases hbig : 1048576 < n
  · go_enter Try.func16, Try.ntmps16
    go_wp2
    go_ret
    exact ⟨rfl, Gr.refl _ _⟩
  · go_enter Try.func16, Try.ntmps16
    go_wp2_with fail
    refine (unrD_any a n c w h hc (by omega)).mono ?_
    rintro e w1 ⟨p, v0, v1, k, rfl, ⟨at', ab, ct, cb, rfl, rfl, hT, hB, ht, hcn⟩, hcb, hk1, hk2, hg1⟩
    have HCB := Lib.hid (hcb _ _ _ rfl)
    clear hcb
    have hlb := count_length p.body
    have hQ := PrW.new (ct := ct) (cb := cb) (hT.mono (fun _ _ _ => trivial) (fun _ _ _ _ h => h)) (hB.sub fun _ _ _ => trivial)
    have hgA := hg1.alloc (.cells #[.slice at' p.types.length ct, .slice ab p.body.length cb] 30)
    clear hT hB hg1 h
    obtain ⟨wA, hwA⟩ : ∃ wA : World, wA = w1.alloc (.cells #[.slice at' p.types.length ct, .slice ab p.body.length cb] 30) := ⟨_, rfl⟩
    go_upto_region 4 with fail
    rw [← hwA] at hQ hgA ⊢
    clear hwA
    have HQ := Lib.hid hQ
    have HG := Lib.hid hgA
    have q0 := hQ.1
    have q1 := hQ.2.1
    have hsm := unrOf_small p k
    have HLAW := Lib.hid (unrOf_law (p := p) (k := k))
    obtain ⟨q, hq⟩ : ∃ q, (unrOf p k).1 = q := ⟨_, rfl⟩
    obtain ⟨b, hb⟩ : ∃ b, (unrOf p k).2 = b := ⟨_, rfl⟩
    rw [hq] at hsm HLAW
    rw [hb] at HLAW
    have HF := Lib.hid (show (unrOf p k).1 = q ∧ (unrOf p k).2 = b from ⟨hq, hb⟩)
    have hlq := count_length q.body
    clear hQ hgA hq hb
    go_wp2_with fail
    refine (implUnrollLoop_any p k at' ab ct cb _ HQ.out.2.2.1 HQ.out.2.2.2 (by omega) (by omega)).mono ?_
    rw [HF.out.1, HF.out.2]
    rintro e w2 ⟨a2, b2, c2, d2, rfl, hT2, hB2, hg2⟩
    have HQ2 := Lib.hid (HQ.out.gr (hg2.alloc (.cells #[.slice a2 q.types.length c2, .slice b2 q.body.length d2] 30)))
    have HG2 := Lib.hid (HG.out.trans0 (hg2.alloc (.cells #[.slice a2 q.types.length c2, .slice b2 q.body.length d2] 30)))
    have HP2 := Lib.hid (PrW.new (ct := c2) (cb := d2) hT2 hB2)
    clear q0 q1 hT2 hB2 hg2 HQ HG
    go_upto_region 5 with fail
    obtain ⟨wB, hwB⟩ : ∃ wB : World, wB = w2.alloc (.cells #[.slice a2 q.types.length c2, .slice b2 q.body.length d2] 30) := ⟨_, rfl⟩
    rw [← hwB] at HQ2 HG2 HP2 ⊢
    clear hwB
    have q0 := HQ2.out.1
    have q1 := HQ2.out.2.1
    go_wp2_with fail
    refine (specUnrollLoop_any p k at' ab ct cb _ HQ2.out.2.2.1 HQ2.out.2.2.2 (by omega) (by omega) HCB.out).mono ?_
    rw [HF.out.1, HF.out.2]
    rintro e w3 ⟨a3, b3, c3, d3, rfl, hT3, hB3, hg3⟩
    have hgC := hg3.alloc (.cells #[.slice a3 q.types.length c3, .slice b3 q.body.length d3] 30)
    have HQ3 := Lib.hid (HQ2.out.gr hgC)
    have HG3 := Lib.hid (HG2.out.trans0 hgC)
    have HP3 := Lib.hid (HP2.out.gr hgC)
    have HR3 := Lib.hid (PrW.new (ct := c3) (cb := d3) hT3 hB3)
    clear q0 q1 hT3 hB3 hg3 HQ2 HG2 HP2 hgC
    go_upto_region 6 with fail
    obtain ⟨wC, hwC⟩ : ∃ wC : World, wC = w3.alloc (.cells #[.slice a3 q.types.length c3, .slice b3 q.body.length d3] 30) := ⟨_, rfl⟩
    rw [← hwC] at HQ3 HG3 HP3 HR3 ⊢
    clear hwC
    have q0 := HP3.out.1
    have q1 := HP3.out.2.1
    have r0 := HR3.out.1
    have r1 := HR3.out.2.1
    cases b with
    | false =>
      go_wp2_with fail
      refine (programSame_any q a2 b2 a3 b3 c2 d2 c3 d3 _ HP3.out.2.2.1 HP3.out.2.2.2 HR3.out.2.2.1 HR3.out.2.2.2 (by omega) (by omega)).mono ?_
      rintro e w4 ⟨rfl, hg4⟩
      have HP4 := Lib.hid (HP3.out.gr hg4)
      have HR4 := Lib.hid (HR3.out.gr hg4)
      have HG4 := Lib.hid (HG3.out.trans0 hg4)
      clear q0 q1 r0 r1 hg4
      have q0 := HP4.out.1
      have q1 := HP4.out.2.1
      have r0 := HR4.out.1
      have r1 := HR4.out.2.1
      go_wp2_with fail
      refine (programSame_any q a2 b2 a3 b3 c2 d2 c3 d3 _ HP4.out.2.2.1 HP4.out.2.2.2 HR4.out.2.2.1 HR4.out.2.2.2 (by omega) (by omega)).mono ?_
      rintro e w5 ⟨rfl, hg5⟩
      go_wp2_with fail
      go_ret
      exact ⟨rfl, HG4.out.trans0 hg5⟩
    | true =>
      obtain ⟨j, hj, rfl, hcnt, hchs⟩ := HLAW.out rfl
      obtain ⟨N1, hN1⟩ : ∃ N1, cntOf p = N1 := ⟨_, rfl⟩
      obtain ⟨N2, hN2⟩ : ∃ N2, cntOf ⟨p.types, [p.body[j]]⟩ = N2 := ⟨_, rfl⟩
      obtain ⟨M1, hM1⟩ : ∃ M1, chs (ptsOf p) = M1 := ⟨_, rfl⟩
      obtain ⟨M2, hM2⟩ : ∃ M2, chs (ptsOf ⟨p.types, [p.body[j]]⟩) = M2 := ⟨_, rfl⟩
      have hNq : cntOf q ≤ St.count q.body := by unfold cntOf; split <;> omega
      have hMq : chs (ptsOf q) ≤ 61 := Nat.le_trans (chs_le _) (ptsOf_le q)
      rw [hcnt, hN1, hN2] at hNq
      rw [hchs, hM1, hM2] at hMq
      rw [hN1, hN2] at hcnt
      rw [hM1, hM2] at hchs
      have HN := Lib.hid hcnt
      have HM := Lib.hid hchs
      have HN1 := Lib.hid hN1
      have HN2 := Lib.hid hN2
      have HM1 := Lib.hid hM1
      have HM2 := Lib.hid hM2
      have hwN : IntKind.i64.wrap ((N1 : Int) + (N2 : Int)) = (N1 : Int) + (N2 : Int) := IntWalk.i64_in _ (by omega)
      have hwM : IntKind.i64.wrap ((M1 : Int) + (M2 : Int)) = (M1 : Int) + (M2 : Int) := IntWalk.i64_in _ (by omega)
      have HW := Lib.hid (And.intro hwN hwM)
      clear hcnt hchs hN1 hN2 hM1 hM2 hNq hMq hwN hwM
      go_wp2_with fail
      refine (programSame_any q a2 b2 a3 b3 c2 d2 c3 d3 _ HP3.out.2.2.1 HP3.out.2.2.2 HR3.out.2.2.1 HR3.out.2.2.2 (by omega) (by omega)).mono ?_
      rintro e w4 ⟨rfl, hg4⟩
      have HP4 := Lib.hid (HP3.out.gr hg4)
      have HQ4 := Lib.hid (HQ3.out.gr hg4)
      have HG4 := Lib.hid (HG3.out.trans0 hg4)
      clear q0 q1 r0 r1 hg4
      obtain ⟨bb, oo, rfl, hst⟩ := HQ4.out.2.2.2.at hj
      have HONE := Lib.hid (show SlAt w4 Any [p.body[j]] (some ⟨bb, oo + j * 6, none⟩) from SlAt.of fun i hi => by obtain rfl : i = 0 := (by simp at hi; omega); simpa using hst)
      have p0 := HQ4.out.1
      have p1 := HQ4.out.2.1
      have hji : (0 : Int) ≤ (j : Int) ∧ (j : Int) < (p.body.length : Int) := by omega
      have hw1 : IntKind.i64.wrap ((j : Int) + 1) = (j : Int) + 1 := IntWalk.i64_in _ (by omega)
      have hcb1 : (j : Int) + 1 ≤ (cb : Int) := by have := HCB.out; omega
      have hcbj : ¬ cb = j := by have := HCB.out; omega
      have hjj : (0 : Int) ≤ (j : Int) + 1 ∧ (j : Int) ≤ (j : Int) + 1 := by omega
      clear hst
      go_upto_region 8 with fail
      refine wp_region_held_drew (S := fun W => Gr w4 W none) (by kernel_rfl) ((Gr.refl _ _).drew) (fun hHeld => ?_)
      refine wpAnyH_take (i := 0) (v := ?_) rfl (by kernel_rfl) (by kernel_rfl) (by kernel_rfl) (fun _ _ _ h => h) (Or.inl ⟨by rfl, ?_⟩) hHeld ?_
      rotate_left
      focus (intro wq hq; clear hq; go_simp; try with_reducible rfl)
      simp only [Act.put, List.getElem_toArray, List.getElem_cons_zero, List.setIfInBounds_toArray, List.set_cons_zero, List.set_cons_succ]
      refine wpAnyH_take (i := 1) (v := ?_) rfl (by kernel_rfl) (by kernel_rfl) (by kernel_rfl) (fun _ _ _ h => h) (Or.inl ⟨by rfl, ?_⟩) hHeld ?_
      rotate_left
      focus (intro wq hq; have k0 := hq.cell p0 (by simp); go_simp; try with_reducible rfl)
      simp only [Act.put, List.getElem_toArray, List.getElem_cons_succ, List.getElem_cons_zero, List.setIfInBounds_toArray, List.set_cons_zero, List.set_cons_succ]
      refine wpAnyH_take (i := 2) (v := ?_) rfl (by kernel_rfl) (by kernel_rfl) (by kernel_rfl) (fun _ _ _ h => h) (Or.inl ⟨by rfl, ?_⟩) hHeld ?_
      rotate_left
      focus (intro wq hq; clear hq; go_simp; try with_reducible rfl)
      simp only [Act.put, List.getElem_toArray, List.getElem_cons_succ, List.getElem_cons_zero, List.setIfInBounds_toArray, List.set_cons_zero, List.set_cons_succ]
      refine wpAnyH_take (i := 3) (v := ?_) rfl (by kernel_rfl) (by kernel_rfl) (by kernel_rfl) (fun _ _ _ h => h) (Or.inl ⟨by rfl, ?_⟩) hHeld ?_
      rotate_left
      focus (intro wq hq; have k0 := hq.cell p1 (by simp); go_simp; try with_reducible rfl)
      simp only [Act.put, List.getElem_toArray, List.getElem_cons_succ, List.getElem_cons_zero, List.setIfInBounds_toArray, List.set_cons_zero, List.set_cons_succ]
      refine wpAnyH_take (i := 4) (v := ?_) rfl (by kernel_rfl) (by kernel_rfl) (by kernel_rfl) (fun _ _ _ h => h) (Or.inl ⟨by rfl, ?_⟩) hHeld ?_
      rotate_left
      focus (intro wq hq; clear hq; go_simp; try with_reducible rfl)
      simp only [Act.put, List.getElem_toArray, List.getElem_cons_succ, List.getElem_cons_zero, List.setIfInBounds_toArray, List.set_cons_zero, List.set_cons_succ]
      refine wpAnyH_take (i := 5) (v := ?_) rfl (by kernel_rfl) (by kernel_rfl) (by kernel_rfl) (fun _ _ _ h => h) (Or.inl ⟨by rfl, ?_⟩) hHeld ?_
      rotate_left
      focus (intro wq hq; clear hq; go_simp; try with_reducible rfl)
      simp only [Act.put, List.getElem_toArray, List.getElem_cons_succ, List.getElem_cons_zero, List.setIfInBounds_toArray, List.set_cons_zero, List.set_cons_succ]
      refine wpAnyH_take (i := 6) (v := ?_) rfl (by kernel_rfl) (by kernel_rfl) (by kernel_rfl) (fun _ _ _ h => h) (Or.inl ⟨by rfl, ?_⟩) hHeld ?_
      rotate_left
      focus (intro wq hq; clear hq; go_simp; try with_reducible rfl)
      simp only [Act.put, List.getElem_toArray, List.getElem_cons_succ, List.getElem_cons_zero, List.setIfInBounds_toArray, List.set_cons_zero, List.set_cons_succ]
      refine wpAnyH_take (i := 7) (v := ?_) rfl (by kernel_rfl) (by kernel_rfl) (by kernel_rfl) (fun _ _ _ h => h) (Or.inl ⟨by rfl, ?_⟩) hHeld ?_
      rotate_left
      focus (intro wq hq; clear hq; go_simp; try with_reducible rfl)
      simp only [Act.put, List.getElem_toArray, List.getElem_cons_succ, List.getElem_cons_zero, List.setIfInBounds_toArray, List.set_cons_zero, List.set_cons_succ]
      refine wpAnyH_take (i := 8) (v := ?_) rfl (by kernel_rfl) (by kernel_rfl) (by kernel_rfl) (fun _ _ _ h => h) (Or.inl ⟨by rfl, ?_⟩) hHeld ?_
      rotate_left
      focus (intro wq hq; clear hq; go_simp; try with_reducible rfl)
      simp only [Act.put, List.getElem_toArray, List.getElem_cons_succ, List.getElem_cons_zero, List.setIfInBounds_toArray, List.set_cons_zero, List.set_cons_succ]
      refine wpAnyH_ready (rs := [9]) (by kernel_rfl) (by simp) ?_
      refine AllReadyH.cons rfl (fun K hK => ?_) AllReadyH.nil
      go_simp
      try dsimp only
      refine hK.out _ _ (hHeld.alloc _) (fun hHeld => ?_)
      clear hK K
      try simp only [Act.put, List.getElem_toArray, List.getElem_cons_succ, List.getElem_cons_zero, List.setIfInBounds_toArray, List.set_cons_zero, List.set_cons_succ]
      refine wpAnyH_ready (rs := [10]) (by kernel_rfl) (by simp) ?_
      refine AllReadyH.cons rfl (fun K hK => ?_) AllReadyH.nil
      obtain ⟨z0, z1, zf⟩ := Zp.new w4.drew (.slice none 0 0) (.slice none 0 0) 30
      go_simp
      try dsimp only
      refine hK.out _ _ (((Gr.refl w4 none).alloc _).drew) (fun hHeld => ?_)
      clear hK K
      try simp only [Act.put, List.getElem_toArray, List.getElem_cons_succ, List.getElem_cons_zero, List.setIfInBounds_toArray, List.set_cons_zero, List.set_cons_succ]
      refine wpAnyH_done (by kernel_rfl) ?_ _
      have hz9 := (PrW.new (p := ⟨p.types, [p.body[j]]⟩) (ct := ct) (cb := cb - j) HQ4.out.2.2.1 HONE.out).gr (Gr.refl _ none).drew
      have hg9 : Gr w4 (w4.alloc (.cells #[.slice at' p.types.length ct, .slice (some ⟨bb, oo + j * 6, none⟩) 1 (cb - j)] 30)).drew none := ((Gr.refl w4 none).alloc _).drew
      obtain ⟨w9, hw9⟩ : ∃ w9, w9 = (w4.alloc (.cells #[.slice at' p.types.length ct, .slice (some ⟨bb, oo + j * 6, none⟩) 1 (cb - j)] 30)).drew := ⟨_, rfl⟩
      have hz9' : PrW w9 w4.heap.size ⟨p.types, [p.body[j]]⟩ at' (some ⟨bb, oo + j * 6, none⟩) ct (cb - j) := by rw [hw9]; exact hz9
      rw [← hw9] at hg9 ⊢
      have HP9 := Lib.hid (HP4.out.gr hg9)
      have HQ9 := Lib.hid (HQ4.out.gr hg9)
      have HG9 := Lib.hid (HG4.out.trans0 hg9)
      have HO9 := Lib.hid (HONE.out.gr0 hg9)
      clear hw9 hz9 hHeld hg9 p0 p1 hji hw1 hcb1 hcbj hjj
      obtain ⟨o0, o1, -, -⟩ := hz9'
      replace o1 : w9.cell? ⟨w4.heap.size, 1, none⟩ = some (.slice (some ⟨bb, oo + j * 6, none⟩) 1 (cb - j)) := o1
      have q0 := HP9.out.1
      have q1 := HP9.out.2.1
      have p0 := HQ9.out.1
      have p1 := HQ9.out.2.1
      go_upto_region 9 with fail
      obtain ⟨hwN, hwM⟩ := HW.out
      refine wp_region_held_drew (S := fun W => Gr w9 W none) (by kernel_rfl) ((Gr.refl _ _).drew) (fun hHeld => ?_)
      refine wpAnyH_take (i := 0) (v := ?_) rfl (by kernel_rfl) (by kernel_rfl) (by kernel_rfl) (fun _ _ _ h => h) (Or.inl ⟨by rfl, ?_⟩) hHeld ?_
      rotate_left
      focus (intro wq hq; have k0 := hq.cell q0 (by simp); have k1 := hq.cell q1 (by simp); go_simp; try with_reducible rfl)
      simp only [Act.put, List.getElem_toArray, List.getElem_cons_zero, List.setIfInBounds_toArray, List.set_cons_zero, List.set_cons_succ]
      refine wpAnyH_take (i := 2) (v := ?_) rfl (by kernel_rfl) (by kernel_rfl) (by kernel_rfl) (fun _ _ _ h => h) (Or.inl ⟨by rfl, ?_⟩) hHeld ?_
      rotate_left
      focus (intro wq hq; have k0 := hq.cell p0 (by simp); have k1 := hq.cell p1 (by simp); go_simp; try with_reducible rfl)
      simp only [Act.put, List.getElem_toArray, List.getElem_cons_succ, List.getElem_cons_zero, List.setIfInBounds_toArray, List.set_cons_zero, List.set_cons_succ]
      refine wpAnyH_take (i := 4) (v := ?_) rfl (by kernel_rfl) (by kernel_rfl) (by kernel_rfl) (fun _ _ _ h => h) (Or.inl ⟨by rfl, ?_⟩) hHeld ?_
      rotate_left
      focus (intro wq hq; have k0 := hq.cell o0 (by simp); have k1 := hq.cell o1 (by simp); go_simp; try with_reducible rfl)
      simp only [Act.put, List.getElem_toArray, List.getElem_cons_succ, List.getElem_cons_zero, List.setIfInBounds_toArray, List.set_cons_zero, List.set_cons_succ]
      refine wpAnyH_ready (rs := [1]) (by kernel_rfl) (by simp) ?_
      refine AllReadyH.cons rfl (fun K hK => ?_) AllReadyH.nil
      go_simp
      refine (implCountStmts_any q a2 b2 c2 d2 _ (HP9.out.2.2.1.gr0 hHeld) (HP9.out.2.2.2.gr0 hHeld) (by omega) (by omega)).mono ?_
      rw [HN.out]
      rintro e w10 ⟨rfl, hg⟩
      try dsimp only
      refine hK.out _ _ (hHeld.trans0 hg) (fun hHeld => ?_)
      clear hK K
      try simp only [Act.put, List.getElem_toArray, List.getElem_cons_succ, List.getElem_cons_zero, List.setIfInBounds_toArray, List.set_cons_zero, List.set_cons_succ]
      refine wpAnyH_ready (rs := [3]) (by kernel_rfl) (by simp) ?_
      refine AllReadyH.cons rfl (fun K hK => ?_) AllReadyH.nil
      go_simp
      refine (implCountStmts_any p at' (some ⟨bb, oo, none⟩) ct cb _ (HQ9.out.2.2.1.gr0 hHeld) (HQ9.out.2.2.2.gr0 hHeld) (by omega) (by omega)).mono ?_
      rw [HN1.out]
      rintro e w11 ⟨rfl, hg⟩
      try dsimp only
      refine hK.out _ _ (hHeld.trans0 hg) (fun hHeld => ?_)
      clear hK K
      try simp only [Act.put, List.getElem_toArray, List.getElem_cons_succ, List.getElem_cons_zero, List.setIfInBounds_toArray, List.set_cons_zero, List.set_cons_succ]
      refine wpAnyH_ready (rs := [5]) (by kernel_rfl) (by simp) ?_
      refine AllReadyH.cons rfl (fun K hK => ?_) AllReadyH.nil
      go_simp
      refine (implCountStmts_any ⟨p.types, [p.body[j]]⟩ at' (some ⟨bb, oo + j * 6, none⟩) ct (cb - j) _ (HQ9.out.2.2.1.gr0 hHeld) (HO9.out.gr0 hHeld) (by show p.types.length ≤ _; omega) (by show (1 : Nat) ≤ _; omega)).mono ?_
      rw [HN2.out]
      rintro e w12 ⟨rfl, hg⟩
      try dsimp only
      refine hK.out _ _ (hHeld.trans0 hg) (fun hHeld => ?_)
      clear hK K
      try simp only [Act.put, List.getElem_toArray, List.getElem_cons_succ, List.getElem_cons_zero, List.setIfInBounds_toArray, List.set_cons_zero, List.set_cons_succ]
      refine wpAnyH_take (i := 6) (v := ?_) rfl (by kernel_rfl) (by kernel_rfl) (by kernel_rfl) (fun _ _ _ h => h) (Or.inl ⟨by rfl, ?_⟩) hHeld ?_
      rotate_left
      focus (intro wq hq; clear hq; go_simp; try with_reducible rfl)
      simp only [Act.put, List.getElem_toArray, List.getElem_cons_succ, List.getElem_cons_zero, List.setIfInBounds_toArray, List.set_cons_zero, List.set_cons_succ]
      refine wpAnyH_take (i := 7) (v := ?_) rfl (by kernel_rfl) (by kernel_rfl) (by kernel_rfl) (fun _ _ _ h => h) (Or.inl ⟨by rfl, ?_⟩) hHeld ?_
      rotate_left
      focus (intro wq hq; clear hq; go_simp; try with_reducible rfl)
      simp only [Act.put, List.getElem_toArray, List.getElem_cons_succ, List.getElem_cons_zero, List.setIfInBounds_toArray, List.set_cons_zero, List.set_cons_succ]
      refine wpAnyH_take (i := 8) (v := ?_) rfl (by kernel_rfl) (by kernel_rfl) (by kernel_rfl) (fun _ _ _ h => h) (Or.inl ⟨by rfl, ?_⟩) hHeld ?_
      rotate_left
      focus (intro wq hq; clear hq; go_simp; try with_reducible rfl)
      simp only [Act.put, List.getElem_toArray, List.getElem_cons_succ, List.getElem_cons_zero, List.setIfInBounds_toArray, List.set_cons_zero, List.set_cons_succ]
      refine wpAnyH_take (i := 9) (v := ?_) rfl (by kernel_rfl) (by kernel_rfl) (by kernel_rfl) (fun _ _ _ h => h) (Or.inl ⟨by rfl, ?_⟩) hHeld ?_
      rotate_left
      focus (intro wq hq; have k0 := hq.cell q0 (by simp); have k1 := hq.cell q1 (by simp); go_simp; try with_reducible rfl)
      simp only [Act.put, List.getElem_toArray, List.getElem_cons_succ, List.getElem_cons_zero, List.setIfInBounds_toArray, List.set_cons_zero, List.set_cons_succ]
      refine wpAnyH_take (i := 11) (v := ?_) rfl (by kernel_rfl) (by kernel_rfl) (by kernel_rfl) (fun _ _ _ h => h) (Or.inl ⟨by rfl, ?_⟩) hHeld ?_
      rotate_left
      focus (intro wq hq; have k0 := hq.cell p0 (by simp); have k1 := hq.cell p1 (by simp); go_simp; try with_reducible rfl)
      simp only [Act.put, List.getElem_toArray, List.getElem_cons_succ, List.getElem_cons_zero, List.setIfInBounds_toArray, List.set_cons_zero, List.set_cons_succ]
      refine wpAnyH_take (i := 13) (v := ?_) rfl (by kernel_rfl) (by kernel_rfl) (by kernel_rfl) (fun _ _ _ h => h) (Or.inl ⟨by rfl, ?_⟩) hHeld ?_
      rotate_left
      focus (intro wq hq; have k0 := hq.cell o0 (by simp); have k1 := hq.cell o1 (by simp); go_simp; try with_reducible rfl)
      simp only [Act.put, List.getElem_toArray, List.getElem_cons_succ, List.getElem_cons_zero, List.setIfInBounds_toArray, List.set_cons_zero, List.set_cons_succ]
      refine wpAnyH_ready (rs := [10]) (by kernel_rfl) (by simp) ?_
      refine AllReadyH.cons rfl (fun K hK => ?_) AllReadyH.nil
      go_simp
      refine (implCountChoices_any q a2 b2 c2 d2 _ (HP9.out.2.2.1.gr0 hHeld) (HP9.out.2.2.2.gr0 hHeld) (by omega) (by omega)).mono ?_
      rw [HM.out]
      rintro e w13 ⟨rfl, hg⟩
      try dsimp only
      refine hK.out _ _ (hHeld.trans0 hg) (fun hHeld => ?_)
      clear hK K
      try simp only [Act.put, List.getElem_toArray, List.getElem_cons_succ, List.getElem_cons_zero, List.setIfInBounds_toArray, List.set_cons_zero, List.set_cons_succ]
      refine wpAnyH_ready (rs := [12]) (by kernel_rfl) (by simp) ?_
      refine AllReadyH.cons rfl (fun K hK => ?_) AllReadyH.nil
      go_simp
      refine (implCountChoices_any p at' (some ⟨bb, oo, none⟩) ct cb _ (HQ9.out.2.2.1.gr0 hHeld) (HQ9.out.2.2.2.gr0 hHeld) (by omega) (by omega)).mono ?_
      rw [HM1.out]
      rintro e w14 ⟨rfl, hg⟩
      try dsimp only
      refine hK.out _ _ (hHeld.trans0 hg) (fun hHeld => ?_)
      clear hK K
      try simp only [Act.put, List.getElem_toArray, List.getElem_cons_succ, List.getElem_cons_zero, List.setIfInBounds_toArray, List.set_cons_zero, List.set_cons_succ]
      refine wpAnyH_ready (rs := [14]) (by kernel_rfl) (by simp) ?_
      refine AllReadyH.cons rfl (fun K hK => ?_) AllReadyH.nil
      go_simp
      refine (implCountChoices_any ⟨p.types, [p.body[j]]⟩ at' (some ⟨bb, oo + j * 6, none⟩) ct (cb - j) _ (HQ9.out.2.2.1.gr0 hHeld) (HO9.out.gr0 hHeld) (by show p.types.length ≤ _; omega) (by show (1 : Nat) ≤ _; omega)).mono ?_
      rw [HM2.out]
      rintro e w15 ⟨rfl, hg⟩
      try dsimp only
      refine hK.out _ _ (hHeld.trans0 hg) (fun hHeld => ?_)
      clear hK K
      try simp only [Act.put, List.getElem_toArray, List.getElem_cons_succ, List.getElem_cons_zero, List.setIfInBounds_toArray, List.set_cons_zero, List.set_cons_succ]
      refine wpAnyH_take (i := 15) (v := ?_) rfl (by kernel_rfl) (by kernel_rfl) (by kernel_rfl) (fun _ _ _ h => h) (Or.inl ⟨by rfl, ?_⟩) hHeld ?_
      rotate_left
      focus (intro wq hq; clear hq; go_simp; try with_reducible rfl)
      simp only [Act.put, List.getElem_toArray, List.getElem_cons_succ, List.getElem_cons_zero, List.setIfInBounds_toArray, List.set_cons_zero, List.set_cons_succ]
      refine wpAnyH_take (i := 16) (v := ?_) rfl (by kernel_rfl) (by kernel_rfl) (by kernel_rfl) (fun _ _ _ h => h) (Or.inl ⟨by rfl, ?_⟩) hHeld ?_
      rotate_left
      focus (intro wq hq; clear hq; go_simp; try with_reducible rfl)
      simp only [Act.put, List.getElem_toArray, List.getElem_cons_succ, List.getElem_cons_zero, List.setIfInBounds_toArray, List.set_cons_zero, List.set_cons_succ]
      refine wpAnyH_take (i := 17) (v := ?_) rfl (by kernel_rfl) (by kernel_rfl) (by kernel_rfl) (fun _ _ _ h => h) (Or.inl ⟨by rfl, ?_⟩) hHeld ?_
      rotate_left
      focus (intro wq hq; clear hq; go_simp; try with_reducible rfl)
      simp only [Act.put, List.getElem_toArray, List.getElem_cons_succ, List.getElem_cons_zero, List.setIfInBounds_toArray, List.set_cons_zero, List.set_cons_succ]
      refine wpAnyH_take (i := 18) (v := ?_) rfl (by kernel_rfl) (by kernel_rfl) (by kernel_rfl) (fun _ _ _ h => h) (Or.inl ⟨by rfl, ?_⟩) hHeld ?_
      rotate_left
      focus (intro wq hq; clear hq; go_simp; try with_reducible rfl)
      simp only [Act.put, List.getElem_toArray, List.getElem_cons_succ, List.getElem_cons_zero, List.setIfInBounds_toArray, List.set_cons_zero, List.set_cons_succ]
      refine wpAnyH_done (by kernel_rfl) ?_ _
      go_wp2_with fail
      go_ret
      exact ⟨rfl, HG9.out.trans0 hHeld⟩
end Go.Proofs.Ytdnhinkjmjpnnaa

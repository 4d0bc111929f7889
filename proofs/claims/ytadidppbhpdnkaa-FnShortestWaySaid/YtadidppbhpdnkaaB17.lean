/- Walks of drawn arguments, weakly: pairs of points, uses. -/
import Derived.Test.YtadidppbhpdnkaaB16

namespace Go.Proofs.Ytadidppbhpdnkaa

open Go.RowKit

theorem l12c_ret {R : Ending → World → Prop} {tmps : Array Value} {u : World} {b : Nat} {x0 x1 : Value} (hz : Zp u b x0 x1) {v0 v1 v3 v4 : Value} (ht : tmps.getD 2 undef = .pointer (some ⟨b, 0, none⟩)) (h3 : tmps.getD 3 undef = v3) (h4 : tmps.getD 4 undef = v4) (h : R (.returned (.tuple #[.agg #[v0, v1], v3, v4])) (put2 u b v0 v1)) :
    bodyPost Try.prog Try.f46 R .ret { tmps := tmps, defers := [] } (put2 u b v0 v1) := by
  obtain ⟨c0, c1⟩ := hz.put2 v0 v1
  generalize put2 u b v0 v1 = W at *
  have ht' : tmps[2]?.getD undef = .pointer (some ⟨b, 0, none⟩) := by simpa using ht
  have h3' : tmps[3]?.getD undef = v3 := by simpa using h3
  have h4' : tmps[4]?.getD undef = v4 := by simpa using h4
  refine bodyPost_ret (v := .tuple #[.agg #[v0, v1], v3, v4]) ?_ rfl h
  simp [results, Try.results46, go_sem, ht', h3', h4', c0, c1]
set_option maxRecDepth 100000 in
set_option maxHeartbeats 8000000 in
theorem l12Case_any (a : Option Addr) (n c : Nat) (w : World) (h : BytesIn w a n) (hc : n ≤ c) (hn : n ≤ 100000000) : Calls Try.prog 46 #[.slice a n c] w (Drawn2 w) := by
  have hZ := Zp.new w (.slice none 0 0) (.slice none 0 0) 26
  have hA : Gr w (w.alloc (.cells #[.slice none 0 0, .slice none 0 0] 26)) none := (Gr.refl _ _).alloc _
  have hBy := h.gr0 hA
  go_enter Try.func46, Try.ntmps46
  go_wp2_with fail
  refine (l3Place_any a n c _ hBy hc hn).mono ?_
  rintro e w1 ⟨p, v0, v1, k1, rfl, ⟨at', ab, ct, cb, rfl, rfl, hT1, hB1, ht2, hc2⟩, hk1, hk2, hg1⟩
  have hlb := count_length p.body
  have hgA : Gr w1 (w1.alloc (.cells #[.slice at' p.types.length ct, .slice ab p.body.length cb] 26)) none := (Gr.refl _ _).alloc _
  have hsz1 : w.heap.size < w1.heap.size := (hZ.gr hg1 (by simp)).lt
  have HG0 := Lib.hid ((hA.trans0 hg1).trans0 hgA)
  have HZ0 := Lib.hid ((hZ.gr hg1 (by simp)).gr hgA (by simp))
  have HP0 := Lib.hid (Zp.new w1 (.slice at' p.types.length ct) (.slice ab p.body.length cb) 26)
  have HT0 := Lib.hid (hT1.gr0 hgA)
  have HB0 := Lib.hid (hB1.gr0 hgA)
  have HBy := Lib.hid ((hBy.gr0 hg1).gr0 hgA)
  clear hZ hA hBy h hg1 hT1 hB1 hgA
  have q0 := HP0.out.1
  have q1 := HP0.out.2.1
  go_wp2_with fail
  obtain ⟨wA, hwA⟩ : ∃ wA : World, wA = w1.alloc (.cells #[.slice at' p.types.length ct, .slice ab p.body.length cb] 26) := ⟨_, rfl⟩
  rw [← hwA] at HG0 HZ0 HP0 HT0 HB0 HBy q0 q1 ⊢
  clear hwA
  refine (specPointsOf_any p _ _ _ _ _ HT0.out.any HB0.out.any (by omega) (by omega)).mono ?_
  rintro e w3 ⟨M, a3, c3, hM, rfl, hP3, hg3⟩
  have hMl : M.length ≤ 61 := by rw [hM]; exact ptsOf_le p
  replace HG0 := Lib.hid (HG0.out.trans0 hg3)
  replace HZ0 := Lib.hid (HZ0.out.gr hg3 (by simp))
  replace HP0 := Lib.hid (HP0.out.gr hg3 (by simp))
  replace HT0 := Lib.hid (HT0.out.gr0 hg3)
  replace HB0 := Lib.hid (HB0.out.gr0 hg3)
  replace HBy := Lib.hid (HBy.out.gr0 hg3)
  clear hM hP3 hg3 q0 q1
  have hsz3 : w1.heap.size < w3.heap.size := HP0.out.lt
  go_wp2_with fail
  refine (open_any a n c _ HBy.out hc hn).mono ?_
  rintro e w4 ⟨rb, rfl, hR4, hrb, hg4⟩
  have hwr : w.heap.size < rb := by omega
  have hrb9 : rb ≠ w1.heap.size := by omega
  have hlt4 := hR4.lt
  have HS1 := Lib.hid (show DrS w w4 rb 0 w1.heap.size p at' ab ct cb from ⟨HG0.out.trans0 hg4, HZ0.out.gr hg4 (by simp), HP0.out.gr hg4 (by simp),
    (InAt.mono (fun k _ hk => by have := hk.1; have := hk.2; unfold New at *; simp at *; exact ⟨by omega, by omega⟩) (fun _ _ _ _ h => h) _ _ (InAt.lt _ _ HT0.out)).gr0 hg4,
    (SlAt.sub (SlAt.lt _ _ HB0.out) (fun k _ hk => by have := hk.1; have := hk.2; unfold New at *; simp at *; exact ⟨by omega, by omega⟩)).gr0 hg4, hR4⟩)
  have hsz4 : w1.heap.size < w4.heap.size := HS1.out.2.2.1.lt
  clear HG0 HZ0 HP0 HT0 HB0 HBy hg4 hR4
  by_cases hM0 : M.length = 0
  · have hM0' : ((M.length : Int) == 0) = true := by rw [hM0]; rfl
    have HM0 := Lib.hid hM0
    clear hM0
    go_upto_region 5 with fail
    have HS := HS1
    refine wp_region_held_drew (S := fun w' => Gr w w' none ∧ w'.cell? ⟨w1.heap.size, 0, none⟩ = some (.slice at' p.types.length ct) ∧ w'.cell? ⟨w1.heap.size, 1, none⟩ = some (.slice ab p.body.length cb)) (by kernel_rfl) (⟨HS.out.1.drew, HS.out.2.2.1.1, HS.out.2.2.1.2.1⟩) (fun hHeld => ?_)
    refine wpAnyH_take (i := 0) (v := ?_) rfl (by kernel_rfl) (by kernel_rfl) (by kernel_rfl) (fun _ _ _ h => h) (Or.inl ⟨by rfl, ?_⟩) hHeld ?_
    rotate_left
    focus (intro wq hq; obtain ⟨_, k0, k1⟩ := hq; go_simp; try with_reducible rfl)
    simp only [Act.put, List.getElem_toArray, List.getElem_cons_zero, List.setIfInBounds_toArray, List.set_cons_zero, List.set_cons_succ]
    refine wpAnyH_take (i := 1) (v := ?_) rfl (by kernel_rfl) (by kernel_rfl) (by kernel_rfl) (fun _ _ _ h => h) (Or.inl ⟨by rfl, ?_⟩) hHeld ?_
    rotate_left
    focus (intro wq hq; clear hq; go_simp; try with_reducible rfl)
    simp only [Act.put, List.getElem_toArray, List.getElem_cons_succ, List.getElem_cons_zero, List.setIfInBounds_toArray, List.set_cons_zero, List.set_cons_succ]
    refine wpAnyH_take (i := 2) (v := ?_) rfl (by kernel_rfl) (by kernel_rfl) (by kernel_rfl) (fun _ _ _ h => h) (Or.inl ⟨by rfl, ?_⟩) hHeld ?_
    rotate_left
    focus (intro wq hq; clear hq; go_simp; try with_reducible rfl)
    simp only [Act.put, List.getElem_toArray, List.getElem_cons_succ, List.getElem_cons_zero, List.setIfInBounds_toArray, List.set_cons_zero, List.set_cons_succ]
    refine wpAnyH_ready (rs := [3]) (by kernel_rfl) (by simp) ?_
    refine AllReadyH.cons rfl (fun K hK => ?_) AllReadyH.nil
    go_simp
    try dsimp only
    refine hK.out _ _ (⟨Gr.alloc hHeld.1 _, ((Gr.refl _ none).alloc _).cell hHeld.2.1 (by simp), ((Gr.refl _ none).alloc _).cell hHeld.2.2 (by simp)⟩) (fun hHeld => ?_)
    clear hK K
    try simp only [Act.put, List.getElem_toArray, List.getElem_cons_succ, List.getElem_cons_zero, List.setIfInBounds_toArray, List.set_cons_zero, List.set_cons_succ]
    refine wpAnyH_ready (rs := [4]) (by kernel_rfl) (by simp) ?_
    refine AllReadyH.cons rfl (fun K hK => ?_) AllReadyH.nil
    go_simp
    refine (num_any rb 0 [0, -1, 60] 3 rfl _ _ _ (HS.out.2.2.2.2.2.gr0 ((Gr.refl _ none).drew.alloc _)) (by omega) (inAt_lit _ rb (by simp; omega) _ _ rfl _) (by omega) (by omega)).mono ?_
    rintro e w9 ⟨v9, hm9, rfl, hg9, hr9⟩
    have HS9 := Lib.hid ((HS.out.gr0 ((Gr.refl _ none).drew.alloc _)).far hg9 hr9 hwr hrb9)
    try dsimp only
    refine hK.out _ _ (⟨Gr.trans hHeld.1 hg9 (fun r e => .inr (by cases e; omega)), Gr.cell hg9 hHeld.2.1 (by simp; omega), Gr.cell hg9 hHeld.2.2 (by simp; omega)⟩) (fun hHeld => ?_)
    clear hK K
    try simp only [Act.put, List.getElem_toArray, List.getElem_cons_succ, List.getElem_cons_zero, List.setIfInBounds_toArray, List.set_cons_zero, List.set_cons_succ]
    refine wpAnyH_ready (rs := [5]) (by kernel_rfl) (by simp) ?_
    refine AllReadyH.cons rfl (fun K hK => ?_) AllReadyH.nil
    obtain ⟨z0, z1, zf⟩ := HS9.out.2.1
    go_simp
    try dsimp only
    refine hK.out _ _ (⟨put2_gr hHeld.1 (Nat.le_refl _), by rw [World.cell?_setCell_other _ _ _ _ (by simp <;> omega), World.cell?_setCell_other _ _ _ _ (by simp <;> omega)]; exact hHeld.2.1, by rw [World.cell?_setCell_other _ _ _ _ (by simp <;> omega), World.cell?_setCell_other _ _ _ _ (by simp <;> omega)]; exact hHeld.2.2⟩) (fun hHeld => ?_)
    clear hK K
    try simp only [Act.put, List.getElem_toArray, List.getElem_cons_succ, List.getElem_cons_zero, List.setIfInBounds_toArray, List.set_cons_zero, List.set_cons_succ]
    refine wpAnyH_take (i := 6) (v := ?_) rfl (by kernel_rfl) (by kernel_rfl) (by kernel_rfl) (fun _ _ _ h => h) (Or.inl ⟨by rfl, ?_⟩) hHeld ?_
    rotate_left
    focus (intro wq hq; clear hq; go_simp; try with_reducible rfl)
    simp only [Act.put, List.getElem_toArray, List.getElem_cons_succ, List.getElem_cons_zero, List.setIfInBounds_toArray, List.set_cons_zero, List.set_cons_succ]
    refine wpAnyH_take (i := 7) (v := ?_) rfl (by kernel_rfl) (by kernel_rfl) (by kernel_rfl) (fun _ _ _ h => h) (Or.inl ⟨by rfl, ?_⟩) hHeld ?_
    rotate_left
    focus (intro wq hq; clear hq; go_simp; try with_reducible rfl)
    simp only [Act.put, List.getElem_toArray, List.getElem_cons_succ, List.getElem_cons_zero, List.setIfInBounds_toArray, List.set_cons_zero, List.set_cons_succ]
    refine wpAnyH_done (by kernel_rfl) ?_ _
    have hv9 : -1000000 ≤ v9 ∧ v9 ≤ 1000000 := by simp at hm9; omega
    obtain ⟨z0, z1, zf⟩ := HS9.out.2.1
    have HH := Lib.hid hHeld
    clear hHeld
    go_wp2_with fail
    (try simp only [Exit.inBlock, Exit.then])
    refine l12c_ret (b := w.heap.size) HS9.out.2.1 rfl rfl rfl ?_
    exact ⟨p, _, _, k1, v9, rfl, HS9.out.put ht2 hc2, hk1, hk2, hv9.1, hv9.2, HH.out.1⟩
  · have hM0' : ((M.length : Int) == 0) = false := beq_eq_false_iff_ne.2 (by omega)
    go_wp2_with fail
    refine (pick_any rb 0 12 _ HS1.out.2.2.2.2.2 (by omega) (by omega) (by omega)).mono ?_
    rintro e w5 ⟨v4, rfl, hv4, hv4', hg5, hr5⟩
    have HS := Lib.hid (HS1.out.far hg5 hr5 hwr hrb9)
    have hsz5 : w1.heap.size < w5.heap.size := HS.out.2.2.1.lt
    have hlt5 := hr5.lt
    clear HS1 hg5 hr5
    by_cases hv : v4 = 0
    · subst hv
      go_upto_region 5 with fail
      refine wp_region_held_drew (S := fun w' => Gr w w' none ∧ w'.cell? ⟨w1.heap.size, 0, none⟩ = some (.slice at' p.types.length ct) ∧ w'.cell? ⟨w1.heap.size, 1, none⟩ = some (.slice ab p.body.length cb)) (by kernel_rfl) (⟨HS.out.1.drew, HS.out.2.2.1.1, HS.out.2.2.1.2.1⟩) (fun hHeld => ?_)
      refine wpAnyH_take (i := 0) (v := ?_) rfl (by kernel_rfl) (by kernel_rfl) (by kernel_rfl) (fun _ _ _ h => h) (Or.inl ⟨by rfl, ?_⟩) hHeld ?_
      rotate_left
      focus (intro wq hq; obtain ⟨_, k0, k1⟩ := hq; go_simp; try with_reducible rfl)
      simp only [Act.put, List.getElem_toArray, List.getElem_cons_zero, List.setIfInBounds_toArray, List.set_cons_zero, List.set_cons_succ]
      refine wpAnyH_take (i := 1) (v := ?_) rfl (by kernel_rfl) (by kernel_rfl) (by kernel_rfl) (fun _ _ _ h => h) (Or.inl ⟨by rfl, ?_⟩) hHeld ?_
      rotate_left
      focus (intro wq hq; clear hq; go_simp; try with_reducible rfl)
      simp only [Act.put, List.getElem_toArray, List.getElem_cons_succ, List.getElem_cons_zero, List.setIfInBounds_toArray, List.set_cons_zero, List.set_cons_succ]
      refine wpAnyH_take (i := 2) (v := ?_) rfl (by kernel_rfl) (by kernel_rfl) (by kernel_rfl) (fun _ _ _ h => h) (Or.inl ⟨by rfl, ?_⟩) hHeld ?_
      rotate_left
      focus (intro wq hq; clear hq; go_simp; try with_reducible rfl)
      simp only [Act.put, List.getElem_toArray, List.getElem_cons_succ, List.getElem_cons_zero, List.setIfInBounds_toArray, List.set_cons_zero, List.set_cons_succ]
      refine wpAnyH_ready (rs := [3]) (by kernel_rfl) (by simp) ?_
      refine AllReadyH.cons rfl (fun K hK => ?_) AllReadyH.nil
      go_simp
      try dsimp only
      refine hK.out _ _ (⟨Gr.alloc hHeld.1 _, ((Gr.refl _ none).alloc _).cell hHeld.2.1 (by simp), ((Gr.refl _ none).alloc _).cell hHeld.2.2 (by simp)⟩) (fun hHeld => ?_)
      clear hK K
      try simp only [Act.put, List.getElem_toArray, List.getElem_cons_succ, List.getElem_cons_zero, List.setIfInBounds_toArray, List.set_cons_zero, List.set_cons_succ]
      refine wpAnyH_ready (rs := [4]) (by kernel_rfl) (by simp) ?_
      refine AllReadyH.cons rfl (fun K hK => ?_) AllReadyH.nil
      go_simp
      refine (num_any rb (0 + 1) [0, -1, 60] 3 rfl _ _ _ (HS.out.2.2.2.2.2.gr0 ((Gr.refl _ none).drew.alloc _)) (by omega) (inAt_lit _ rb (by simp; omega) _ _ rfl _) (by omega) (by omega)).mono ?_
      rintro e w9 ⟨v9, hm9, rfl, hg9, hr9⟩
      have HS9 := Lib.hid ((HS.out.gr0 ((Gr.refl _ none).drew.alloc _)).far hg9 hr9 hwr hrb9)
      try dsimp only
      refine hK.out _ _ (⟨Gr.trans hHeld.1 hg9 (fun r e => .inr (by cases e; omega)), Gr.cell hg9 hHeld.2.1 (by simp; omega), Gr.cell hg9 hHeld.2.2 (by simp; omega)⟩) (fun hHeld => ?_)
      clear hK K
      try simp only [Act.put, List.getElem_toArray, List.getElem_cons_succ, List.getElem_cons_zero, List.setIfInBounds_toArray, List.set_cons_zero, List.set_cons_succ]
      refine wpAnyH_ready (rs := [5]) (by kernel_rfl) (by simp) ?_
      refine AllReadyH.cons rfl (fun K hK => ?_) AllReadyH.nil
      obtain ⟨z0, z1, zf⟩ := HS9.out.2.1
      go_simp
      try dsimp only
      refine hK.out _ _ (⟨put2_gr hHeld.1 (Nat.le_refl _), by rw [World.cell?_setCell_other _ _ _ _ (by simp <;> omega), World.cell?_setCell_other _ _ _ _ (by simp <;> omega)]; exact hHeld.2.1, by rw [World.cell?_setCell_other _ _ _ _ (by simp <;> omega), World.cell?_setCell_other _ _ _ _ (by simp <;> omega)]; exact hHeld.2.2⟩) (fun hHeld => ?_)
      clear hK K
      try simp only [Act.put, List.getElem_toArray, List.getElem_cons_succ, List.getElem_cons_zero, List.setIfInBounds_toArray, List.set_cons_zero, List.set_cons_succ]
      refine wpAnyH_take (i := 6) (v := ?_) rfl (by kernel_rfl) (by kernel_rfl) (by kernel_rfl) (fun _ _ _ h => h) (Or.inl ⟨by rfl, ?_⟩) hHeld ?_
      rotate_left
      focus (intro wq hq; clear hq; go_simp; try with_reducible rfl)
      simp only [Act.put, List.getElem_toArray, List.getElem_cons_succ, List.getElem_cons_zero, List.setIfInBounds_toArray, List.set_cons_zero, List.set_cons_succ]
      refine wpAnyH_take (i := 7) (v := ?_) rfl (by kernel_rfl) (by kernel_rfl) (by kernel_rfl) (fun _ _ _ h => h) (Or.inl ⟨by rfl, ?_⟩) hHeld ?_
      rotate_left
      focus (intro wq hq; clear hq; go_simp; try with_reducible rfl)
      simp only [Act.put, List.getElem_toArray, List.getElem_cons_succ, List.getElem_cons_zero, List.setIfInBounds_toArray, List.set_cons_zero, List.set_cons_succ]
      refine wpAnyH_done (by kernel_rfl) ?_ _
      have hv9 : -1000000 ≤ v9 ∧ v9 ≤ 1000000 := by simp at hm9; omega
      obtain ⟨z0, z1, zf⟩ := HS9.out.2.1
      have HH := Lib.hid hHeld
      clear hHeld
      go_wp2_with fail
      (try simp only [Exit.inBlock, Exit.then])
      refine l12c_ret (b := w.heap.size) HS9.out.2.1 rfl rfl rfl ?_
      exact ⟨p, _, _, k1, v9, rfl, HS9.out.put ht2 hc2, hk1, hk2, hv9.1, hv9.2, HH.out.1⟩
    · go_upto_region 6 with fail
      refine wp_region_held_drew (S := fun w' => Gr w w' none ∧ w'.cell? ⟨w1.heap.size, 0, none⟩ = some (.slice at' p.types.length ct) ∧ w'.cell? ⟨w1.heap.size, 1, none⟩ = some (.slice ab p.body.length cb)) (by kernel_rfl) (⟨HS.out.1.drew, HS.out.2.2.1.1, HS.out.2.2.1.2.1⟩) (fun hHeld => ?_)
      refine wpAnyH_take (i := 0) (v := ?_) rfl (by kernel_rfl) (by kernel_rfl) (by kernel_rfl) (fun _ _ _ h => h) (Or.inl ⟨by rfl, ?_⟩) hHeld ?_
      rotate_left
      focus (intro wq hq; obtain ⟨_, k0, k1⟩ := hq; go_simp; try with_reducible rfl)
      simp only [Act.put, List.getElem_toArray, List.getElem_cons_zero, List.setIfInBounds_toArray, List.set_cons_zero, List.set_cons_succ]
      refine wpAnyH_take (i := 1) (v := ?_) rfl (by kernel_rfl) (by kernel_rfl) (by kernel_rfl) (fun _ _ _ h => h) (Or.inl ⟨by rfl, ?_⟩) hHeld ?_
      rotate_left
      focus (intro wq hq; clear hq; go_simp; try with_reducible rfl)
      simp only [Act.put, List.getElem_toArray, List.getElem_cons_succ, List.getElem_cons_zero, List.setIfInBounds_toArray, List.set_cons_zero, List.set_cons_succ]
      refine wpAnyH_take (i := 2) (v := ?_) rfl (by kernel_rfl) (by kernel_rfl) (by kernel_rfl) (fun _ _ _ h => h) (Or.inl ⟨by rfl, ?_⟩) hHeld ?_
      rotate_left
      focus (intro wq hq; clear hq; go_simp; try with_reducible rfl)
      simp only [Act.put, List.getElem_toArray, List.getElem_cons_succ, List.getElem_cons_zero, List.setIfInBounds_toArray, List.set_cons_zero, List.set_cons_succ]
      refine wpAnyH_take (i := 3) (v := ?_) rfl (by kernel_rfl) (by kernel_rfl) (by kernel_rfl) (fun _ _ _ h => h) (Or.inl ⟨by rfl, ?_⟩) hHeld ?_
      rotate_left
      focus (intro wq hq; clear hq; go_simp; try with_reducible rfl)
      simp only [Act.put, List.getElem_toArray, List.getElem_cons_succ, List.getElem_cons_zero, List.setIfInBounds_toArray, List.set_cons_zero, List.set_cons_succ]
      refine wpAnyH_ready (rs := [4]) (by kernel_rfl) (by simp) ?_
      refine AllReadyH.cons rfl (fun K hK => ?_) AllReadyH.nil
      go_simp
      refine (pick_any rb (0 + 1) M.length _ (HS.out.2.2.2.2.2.gr0 ((Gr.refl _ none).drew)) (by omega) (by omega) (by omega)).mono ?_
      rintro e w9 ⟨v9, rfl, hv9a, hv9b, hg9, hr9⟩
      have HS9 := Lib.hid ((HS.out.gr0 ((Gr.refl _ none).drew)).far hg9 hr9 hwr hrb9)
      try dsimp only
      refine hK.out _ _ (⟨Gr.trans hHeld.1 hg9 (fun r e => .inr (by cases e; omega)), Gr.cell hg9 hHeld.2.1 (by simp; omega), Gr.cell hg9 hHeld.2.2 (by simp; omega)⟩) (fun hHeld => ?_)
      clear hK K
      try simp only [Act.put, List.getElem_toArray, List.getElem_cons_succ, List.getElem_cons_zero, List.setIfInBounds_toArray, List.set_cons_zero, List.set_cons_succ]
      refine wpAnyH_ready (rs := [5]) (by kernel_rfl) (by simp) ?_
      refine AllReadyH.cons rfl (fun K hK => ?_) AllReadyH.nil
      obtain ⟨z0, z1, zf⟩ := HS9.out.2.1
      go_simp
      try dsimp only
      refine hK.out _ _ (⟨put2_gr hHeld.1 (Nat.le_refl _), by rw [World.cell?_setCell_other _ _ _ _ (by simp <;> omega), World.cell?_setCell_other _ _ _ _ (by simp <;> omega)]; exact hHeld.2.1, by rw [World.cell?_setCell_other _ _ _ _ (by simp <;> omega), World.cell?_setCell_other _ _ _ _ (by simp <;> omega)]; exact hHeld.2.2⟩) (fun hHeld => ?_)
      clear hK K
      try simp only [Act.put, List.getElem_toArray, List.getElem_cons_succ, List.getElem_cons_zero, List.setIfInBounds_toArray, List.set_cons_zero, List.set_cons_succ]
      refine wpAnyH_take (i := 6) (v := ?_) rfl (by kernel_rfl) (by kernel_rfl) (by kernel_rfl) (fun _ _ _ h => h) (Or.inl ⟨by rfl, ?_⟩) hHeld ?_
      rotate_left
      focus (intro wq hq; clear hq; go_simp; try with_reducible rfl)
      simp only [Act.put, List.getElem_toArray, List.getElem_cons_succ, List.getElem_cons_zero, List.setIfInBounds_toArray, List.set_cons_zero, List.set_cons_succ]
      refine wpAnyH_take (i := 7) (v := ?_) rfl (by kernel_rfl) (by kernel_rfl) (by kernel_rfl) (fun _ _ _ h => h) (Or.inl ⟨by rfl, ?_⟩) hHeld ?_
      rotate_left
      focus (intro wq hq; clear hq; go_simp; try with_reducible rfl)
      simp only [Act.put, List.getElem_toArray, List.getElem_cons_succ, List.getElem_cons_zero, List.setIfInBounds_toArray, List.set_cons_zero, List.set_cons_succ]
      refine wpAnyH_done (by kernel_rfl) ?_ _
      have hv9 : -1000000 ≤ v9 ∧ v9 ≤ 1000000 := by have := hv9b (by omega); omega
      obtain ⟨z0, z1, zf⟩ := HS9.out.2.1
      have HH := Lib.hid hHeld
      clear hHeld
      go_wp2_with fail
      (try simp only [Exit.inBlock, Exit.then])
      refine l12c_ret (b := w.heap.size) HS9.out.2.1 rfl rfl rfl ?_
      exact ⟨p, _, _, k1, v9, rfl, HS9.out.put ht2 hc2, hk1, hk2, hv9.1, hv9.2, HH.out.1⟩
theorem domD_ret {R : Ending → World → Prop} {tmps : Array Value} {u : World} {b : Nat} {x0 x1 : Value} (hz : Zp u b x0 x1) {v0 v1 v3 v4 : Value} (ht : tmps.getD 2 undef = .pointer (some ⟨b, 0, none⟩)) (h3 : tmps.getD 3 undef = v3) (h4 : tmps.getD 4 undef = v4) (h : R (.returned (.tuple #[.agg #[v0, v1], v3, v4])) (put2 u b v0 v1)) :
    bodyPost Try.prog Try.f16 R .ret { tmps := tmps, defers := [] } (put2 u b v0 v1) := by
  obtain ⟨c0, c1⟩ := hz.put2 v0 v1
  generalize put2 u b v0 v1 = W at *
  have ht' : tmps[2]?.getD undef = .pointer (some ⟨b, 0, none⟩) := by simpa using ht
  have h3' : tmps[3]?.getD undef = v3 := by simpa using h3
  have h4' : tmps[4]?.getD undef = v4 := by simpa using h4
  refine bodyPost_ret (v := .tuple #[.agg #[v0, v1], v3, v4]) ?_ rfl h
  simp [results, Try.results16, go_sem, ht', h3', h4', c0, c1]
set_option maxRecDepth 100000 in
set_option maxHeartbeats 4000000 in
theorem domD_any (a : Option Addr) (n c : Nat) (w : World) (h : BytesIn w a n) (hc : n ≤ c) (hn : n ≤ 100000000) : Calls Try.prog 16 #[.slice a n c] w (Drawn2 w) := by
  have hZ := Zp.new w (.slice none 0 0) (.slice none 0 0) 26
  have hA : Gr w (w.alloc (.cells #[.slice none 0 0, .slice none 0 0] 26)) none := (Gr.refl _ _).alloc _
  have hBy := h.gr0 hA
  go_enter Try.func16, Try.ntmps16
  go_wp2_with fail
  refine (l12Case_any a n c _ hBy hc hn).mono ?_
  rintro e w1 ⟨p, v0, v1, k, m, rfl, ⟨at', ab, ct, cb, rfl, rfl, hT, hB, ht, hc2⟩, hk1, hk2, hm1, hm2, hg1⟩
  have HZ := Lib.hid (hZ.gr hg1 (by simp))
  have HG := Lib.hid (hA.trans0 hg1)
  clear hA hZ hg1
  obtain ⟨z0, z1, zf⟩ := HZ.out
  have hT' := Lib.hid hT
  have hB' := Lib.hid hB
  clear hT hB
  go_wp2_with fail
  (try simp only [Exit.inBlock, Exit.then])
  refine domD_ret (b := w.heap.size) HZ.out rfl rfl rfl ?_
  exact ⟨p, _, _, k, m, rfl, PrAt.put (Nat.le_refl _) (by simp) hT'.out hB'.out ht hc2 rfl rfl, hk1, hk2, hm1, hm2, put2_gr HG.out (Nat.le_refl _)⟩
theorem alwD_ret {R : Ending → World → Prop} {tmps : Array Value} {u : World} {b : Nat} {x0 x1 : Value} (hz : Zp u b x0 x1) {v0 v1 v3 v4 : Value} (ht : tmps.getD 2 undef = .pointer (some ⟨b, 0, none⟩)) (h3 : tmps.getD 3 undef = v3) (h4 : tmps.getD 4 undef = v4) (h : R (.returned (.tuple #[.agg #[v0, v1], v3, v4])) (put2 u b v0 v1)) :
    bodyPost Try.prog Try.f28 R .ret { tmps := tmps, defers := [] } (put2 u b v0 v1) := by
  obtain ⟨c0, c1⟩ := hz.put2 v0 v1
  generalize put2 u b v0 v1 = W at *
  have ht' : tmps[2]?.getD undef = .pointer (some ⟨b, 0, none⟩) := by simpa using ht
  have h3' : tmps[3]?.getD undef = v3 := by simpa using h3
  have h4' : tmps[4]?.getD undef = v4 := by simpa using h4
  refine bodyPost_ret (v := .tuple #[.agg #[v0, v1], v3, v4]) ?_ rfl h
  simp [results, Try.results28, go_sem, ht', h3', h4', c0, c1]
set_option maxRecDepth 100000 in
set_option maxHeartbeats 4000000 in
theorem alwD_any (a : Option Addr) (n c : Nat) (w : World) (h : BytesIn w a n) (hc : n ≤ c) (hn : n ≤ 100000000) : Calls Try.prog 28 #[.slice a n c] w (Drawn2 w) := by
  have hZ := Zp.new w (.slice none 0 0) (.slice none 0 0) 26
  have hA : Gr w (w.alloc (.cells #[.slice none 0 0, .slice none 0 0] 26)) none := (Gr.refl _ _).alloc _
  have hBy := h.gr0 hA
  go_enter Try.func28, Try.ntmps28
  go_wp2_with fail
  refine (l12Case_any a n c _ hBy hc hn).mono ?_
  rintro e w1 ⟨p, v0, v1, k, m, rfl, ⟨at', ab, ct, cb, rfl, rfl, hT, hB, ht, hc2⟩, hk1, hk2, hm1, hm2, hg1⟩
  have HZ := Lib.hid (hZ.gr hg1 (by simp))
  have HG := Lib.hid (hA.trans0 hg1)
  clear hA hZ hg1
  obtain ⟨z0, z1, zf⟩ := HZ.out
  have hT' := Lib.hid hT
  have hB' := Lib.hid hB
  clear hT hB
  go_wp2_with fail
  (try simp only [Exit.inBlock, Exit.then])
  refine alwD_ret (b := w.heap.size) HZ.out rfl rfl rfl ?_
  exact ⟨p, _, _, k, m, rfl, PrAt.put (Nat.le_refl _) (by simp) hT'.out hB'.out ht hc2 rfl rfl, hk1, hk2, hm1, hm2, put2_gr HG.out (Nat.le_refl _)⟩
end Go.Proofs.Ytadidppbhpdnkaa

/- Walks of drawn arguments, weakly: a statement's place; the arguments of ForwardLoad. -/
import Derived.Test.YtdnhinkjmjpnnaaB16

namespace Go.Proofs.Ytdnhinkjmjpnnaa

open Go.RowKit

theorem l11p_ret {R : Ending → World → Prop} {tmps : Array Value} {u : World} {b : Nat} {x0 x1 : Value} (hz : Zp u b x0 x1) {v0 v1 v3 : Value} (ht : tmps.getD 2 undef = .pointer (some ⟨b, 0, none⟩)) (h3 : tmps.getD 3 undef = v3) (h : R (.returned (.tuple #[.agg #[v0, v1], v3])) (put2 u b v0 v1)) :
    bodyPost Try.prog Try.f113 R .ret { tmps := tmps, defers := [] } (put2 u b v0 v1) := by
  obtain ⟨c0, c1⟩ := hz.put2 v0 v1
  generalize put2 u b v0 v1 = W at *
  have ht' : tmps[2]?.getD undef = .pointer (some ⟨b, 0, none⟩) := by simpa using ht
  have h3' : tmps[3]?.getD undef = v3 := by simpa using h3
  refine bodyPost_ret (v := .tuple #[.agg #[v0, v1], v3]) ?_ rfl h
  simp [results, Try.results113, go_sem, ht', h3', c0, c1]
set_option maxRecDepth 100000 in
set_option maxHeartbeats 8000000 in
theorem l11Place_any (a : Option Addr) (n c : Nat) (w : World) (h : BytesIn w a n) (hc : n ≤ c) (hn : n ≤ 100000000) : Calls Try.prog 113 #[.slice a n c] w (Drawn1 w) := by
  have hZ := Zp.new w (.slice none 0 0) (.slice none 0 0) 30
  have hA : Gr w (w.alloc (.cells #[.slice none 0 0, .slice none 0 0] 30)) none := (Gr.refl _ _).alloc _
  have hBy := h.gr0 hA
  go_enter Try.func113, Try.ntmps113
  go_wp2_with fail
  refine (open_any a n c _ hBy hc hn).mono ?_
  rintro e w1 ⟨rb, rfl, hR1, hrb, hg1⟩
  have hwr : w.heap.size < rb := by simp at hrb; omega
  have hZ1 := hZ.gr hg1 (by simp)
  have hG1 := hA.trans0 hg1
  have hlt1 := hR1.lt
  clear hZ hA hBy h hg1 hrb
  go_wp2_with fail
  refine (l1Draw_any rb 0 w1 hR1 (by omega)).mono ?_
  rintro e w2 ⟨p1, a1, b1, c1, d1, rfl, hT1, hB1, ht1, hc1, hg2, hr2⟩
  have hs2 : w1.heap.size ≤ w2.heap.size := hg2.size
  have hZ2 := hZ1.gr hg2 (by simp; omega)
  have hG2 := hG1.trans hg2 (fun r e => .inr (by cases e; omega))
  have hlt2 := hr2.lt
  clear hZ1 hG1 hg2 hR1
  go_wp2_with fail
  refine (l1Mutate_any rb (0 + 400) p1 a1 b1 c1 d1 w2 hr2 (by omega) (hT1.mono (fun _ _ _ => trivial) (fun _ _ _ _ h => h)) (hB1.sub fun _ _ _ => trivial) ht1 hc1).mono ?_
  rintro e w3 ⟨p, at', ab, ct, cb, rfl, hT2, hB2, ht2, hc2, hg3, hr3⟩
  have hlb := count_length p.body
  have hs3 : w2.heap.size ≤ w3.heap.size := hg3.size
  have hlt3 := hr3.lt
  have hrb9 : rb ≠ w3.heap.size := by omega
  have hgA : Gr w3 (w3.alloc (.cells #[.slice at' p.types.length ct, .slice ab p.body.length cb] 30)) none := (Gr.refl _ _).alloc _
  have hS0 : DrS w (w3.alloc (.cells #[.slice at' p.types.length ct, .slice ab p.body.length cb] 30)) rb (0 + 400 + 3) w3.heap.size p at' ab ct cb :=
    ⟨(hG2.trans hg3 (fun r e => .inr (by cases e; omega))).trans0 hgA, (hZ2.gr hg3 (by simp; omega)).gr hgA (by simp), Zp.new _ _ _ _, (hT2.mono (fun k _ hk => by unfold New at hk; exact ⟨by omega, by omega⟩) (fun _ _ _ _ h => h)).gr0 hgA, (hB2.sub (fun k _ hk => by unfold New at hk; exact ⟨by omega, by omega⟩)).gr0 hgA, hr3.gr0 hgA⟩
  clear hZ2 hG2 hg3 hr2 hT1 hB1 hT2 hB2 hr3
  go_upto_region 3 with fail
  obtain ⟨wA, hwA⟩ : ∃ wA : World, wA = w3.alloc (.cells #[.slice at' p.types.length ct, .slice ab p.body.length cb] 30) := ⟨_, rfl⟩
  rw [← hwA] at hS0 hgA ⊢
  have hszA : w3.heap.size < wA.heap.size := by rw [hwA]; simp
  clear hwA
  have HS1 := Lib.hid hS0
  clear hS0 hgA
  have q0 := HS1.out.2.2.1.1
  have q1 := HS1.out.2.2.1.2.1
  by_cases hM0 : p.body.length = 0
  · have hM0' : ((p.body.length : Int) == 0) = true := by rw [hM0]; rfl
    have HM0 := Lib.hid hM0
    clear hM0
    go_upto_region 4 with fail
    have HS := HS1
    clear q0 q1
    refine wp_region_held_drew (S := fun w' => Gr w w' none ∧ w'.cell? ⟨w3.heap.size, 0, none⟩ = some (.slice at' p.types.length ct) ∧ w'.cell? ⟨w3.heap.size, 1, none⟩ = some (.slice ab p.body.length cb)) (by kernel_rfl) (⟨HS.out.1.drew, HS.out.2.2.1.1, HS.out.2.2.1.2.1⟩) (fun hHeld => ?_)
    refine wpAnyH_take (i := 0) (v := ?_) rfl (by kernel_rfl) (by kernel_rfl) (by kernel_rfl) (fun _ _ _ h => h) (Or.inl ⟨by rfl, ?_⟩) hHeld ?_
    rotate_left
    focus (intro wq hq; obtain ⟨_, k0, k1⟩ := hq; go_simp; try with_reducible rfl)
    simp only [Act.put, List.getElem_toArray, List.getElem_cons_zero, List.setIfInBounds_toArray, List.set_cons_zero, List.set_cons_succ]
    refine wpAnyH_take (i := 1) (v := ?_) rfl (by kernel_rfl) (by kernel_rfl) (by kernel_rfl) (fun _ _ _ h => h) (Or.inl ⟨by rfl, ?_⟩) hHeld ?_
    rotate_left
    focus (intro wq hq; clear hq; go_simp; try with_reducible rfl)
    simp only [Act.put, List.getElem_toArray, List.getElem_cons_succ, List.getElem_cons_zero, List.setIfInBounds_toArray, List.set_cons_zero, List.set_cons_succ]
    refine wpAnyH_ready (rs := [2]) (by kernel_rfl) (by simp) ?_
    refine AllReadyH.cons rfl (fun K hK => ?_) AllReadyH.nil
    go_simp
    try dsimp only
    refine hK.out _ _ (⟨Gr.alloc hHeld.1 _, ((Gr.refl _ none).alloc _).cell hHeld.2.1 (by simp), ((Gr.refl _ none).alloc _).cell hHeld.2.2 (by simp)⟩) (fun hHeld => ?_)
    clear hK K
    try simp only [Act.put, List.getElem_toArray, List.getElem_cons_succ, List.getElem_cons_zero, List.setIfInBounds_toArray, List.set_cons_zero, List.set_cons_succ]
    refine wpAnyH_ready (rs := [3]) (by kernel_rfl) (by simp) ?_
    refine AllReadyH.cons rfl (fun K hK => ?_) AllReadyH.nil
    go_simp
    refine (num_any rb (0 + 400 + 3) [0, -1, 40] 3 rfl _ _ _ (HS.out.2.2.2.2.2.gr0 ((Gr.refl _ none).drew.alloc _)) (by omega) (inAt_lit _ rb (by simp; omega) _ _ rfl _) (by omega) (by omega)).mono ?_
    rintro e w9 ⟨v9, hm9, rfl, hg9, hr9⟩
    have HS9 := Lib.hid ((HS.out.gr0 ((Gr.refl _ none).drew.alloc _)).far hg9 hr9 hwr hrb9)
    try dsimp only
    refine hK.out _ _ (⟨Gr.trans hHeld.1 hg9 (fun r e => .inr (by cases e; omega)), Gr.cell hg9 hHeld.2.1 (by simp; omega), Gr.cell hg9 hHeld.2.2 (by simp; omega)⟩) (fun hHeld => ?_)
    clear hK K
    try simp only [Act.put, List.getElem_toArray, List.getElem_cons_succ, List.getElem_cons_zero, List.setIfInBounds_toArray, List.set_cons_zero, List.set_cons_succ]
    refine wpAnyH_ready (rs := [4]) (by kernel_rfl) (by simp) ?_
    refine AllReadyH.cons rfl (fun K hK => ?_) AllReadyH.nil
    obtain ⟨z0, z1, zf⟩ := HS9.out.2.1
    go_simp
    try dsimp only
    refine hK.out _ _ (⟨put2_gr hHeld.1 (Nat.le_refl _), by rw [World.cell?_setCell_other _ _ _ _ (by simp <;> omega), World.cell?_setCell_other _ _ _ _ (by simp <;> omega)]; exact hHeld.2.1, by rw [World.cell?_setCell_other _ _ _ _ (by simp <;> omega), World.cell?_setCell_other _ _ _ _ (by simp <;> omega)]; exact hHeld.2.2⟩) (fun hHeld => ?_)
    clear hK K
    try simp only [Act.put, List.getElem_toArray, List.getElem_cons_succ, List.getElem_cons_zero, List.setIfInBounds_toArray, List.set_cons_zero, List.set_cons_succ]
    refine wpAnyH_take (i := 5) (v := ?_) rfl (by kernel_rfl) (by kernel_rfl) (by kernel_rfl) (fun _ _ _ h => h) (Or.inl ⟨by rfl, ?_⟩) hHeld ?_
    rotate_left
    focus (intro wq hq; clear hq; go_simp; try with_reducible rfl)
    simp only [Act.put, List.getElem_toArray, List.getElem_cons_succ, List.getElem_cons_zero, List.setIfInBounds_toArray, List.set_cons_zero, List.set_cons_succ]
    refine wpAnyH_done (by kernel_rfl) ?_ _
    have hv9 : -1000000 ≤ v9 ∧ v9 ≤ 1000000 := by simp at hm9; omega
    obtain ⟨z0, z1, zf⟩ := HS9.out.2.1
    have HH := Lib.hid hHeld
    clear hHeld
    go_wp2_with fail
    (try simp only [Exit.inBlock, Exit.then])
    refine l11p_ret (b := w.heap.size) HS9.out.2.1 rfl rfl ?_
    exact ⟨p, _, _, v9, rfl, HS9.out.put ht2 hc2, hv9.1, hv9.2, HH.out.1⟩
  · have hM0' : ((p.body.length : Int) == 0) = false := beq_eq_false_iff_ne.2 (by omega)
    go_wp2_with fail
    refine (pick_any rb (0 + 400 + 3) 12 _ HS1.out.2.2.2.2.2 (by omega) (by omega) (by omega)).mono ?_
    rintro e w4 ⟨v4, rfl, hv4, hv4', hg4, hr4⟩
    have HS := Lib.hid (HS1.out.far hg4 hr4 hwr hrb9)
    have hsz4 : w3.heap.size < w4.heap.size := HS.out.2.2.1.lt
    clear HS1 hg4 hr4 q0 q1
    by_cases hv : v4 = 0
    · subst hv
      go_upto_region 4 with fail
      refine wp_region_held_drew (S := fun w' => Gr w w' none ∧ w'.cell? ⟨w3.heap.size, 0, none⟩ = some (.slice at' p.types.length ct) ∧ w'.cell? ⟨w3.heap.size, 1, none⟩ = some (.slice ab p.body.length cb)) (by kernel_rfl) (⟨HS.out.1.drew, HS.out.2.2.1.1, HS.out.2.2.1.2.1⟩) (fun hHeld => ?_)
      refine wpAnyH_take (i := 0) (v := ?_) rfl (by kernel_rfl) (by kernel_rfl) (by kernel_rfl) (fun _ _ _ h => h) (Or.inl ⟨by rfl, ?_⟩) hHeld ?_
      rotate_left
      focus (intro wq hq; obtain ⟨_, k0, k1⟩ := hq; go_simp; try with_reducible rfl)
      simp only [Act.put, List.getElem_toArray, List.getElem_cons_zero, List.setIfInBounds_toArray, List.set_cons_zero, List.set_cons_succ]
      refine wpAnyH_take (i := 1) (v := ?_) rfl (by kernel_rfl) (by kernel_rfl) (by kernel_rfl) (fun _ _ _ h => h) (Or.inl ⟨by rfl, ?_⟩) hHeld ?_
      rotate_left
      focus (intro wq hq; clear hq; go_simp; try with_reducible rfl)
      simp only [Act.put, List.getElem_toArray, List.getElem_cons_succ, List.getElem_cons_zero, List.setIfInBounds_toArray, List.set_cons_zero, List.set_cons_succ]
      refine wpAnyH_ready (rs := [2]) (by kernel_rfl) (by simp) ?_
      refine AllReadyH.cons rfl (fun K hK => ?_) AllReadyH.nil
      go_simp
      try dsimp only
      refine hK.out _ _ (⟨Gr.alloc hHeld.1 _, ((Gr.refl _ none).alloc _).cell hHeld.2.1 (by simp), ((Gr.refl _ none).alloc _).cell hHeld.2.2 (by simp)⟩) (fun hHeld => ?_)
      clear hK K
      try simp only [Act.put, List.getElem_toArray, List.getElem_cons_succ, List.getElem_cons_zero, List.setIfInBounds_toArray, List.set_cons_zero, List.set_cons_succ]
      refine wpAnyH_ready (rs := [3]) (by kernel_rfl) (by simp) ?_
      refine AllReadyH.cons rfl (fun K hK => ?_) AllReadyH.nil
      go_simp
      refine (num_any rb (0 + 400 + 3 + 1) [0, -1, 40] 3 rfl _ _ _ (HS.out.2.2.2.2.2.gr0 ((Gr.refl _ none).drew.alloc _)) (by omega) (inAt_lit _ rb (by simp; omega) _ _ rfl _) (by omega) (by omega)).mono ?_
      rintro e w9 ⟨v9, hm9, rfl, hg9, hr9⟩
      have HS9 := Lib.hid ((HS.out.gr0 ((Gr.refl _ none).drew.alloc _)).far hg9 hr9 hwr hrb9)
      try dsimp only
      refine hK.out _ _ (⟨Gr.trans hHeld.1 hg9 (fun r e => .inr (by cases e; omega)), Gr.cell hg9 hHeld.2.1 (by simp; omega), Gr.cell hg9 hHeld.2.2 (by simp; omega)⟩) (fun hHeld => ?_)
      clear hK K
      try simp only [Act.put, List.getElem_toArray, List.getElem_cons_succ, List.getElem_cons_zero, List.setIfInBounds_toArray, List.set_cons_zero, List.set_cons_succ]
      refine wpAnyH_ready (rs := [4]) (by kernel_rfl) (by simp) ?_
      refine AllReadyH.cons rfl (fun K hK => ?_) AllReadyH.nil
      obtain ⟨z0, z1, zf⟩ := HS9.out.2.1
      go_simp
      try dsimp only
      refine hK.out _ _ (⟨put2_gr hHeld.1 (Nat.le_refl _), by rw [World.cell?_setCell_other _ _ _ _ (by simp <;> omega), World.cell?_setCell_other _ _ _ _ (by simp <;> omega)]; exact hHeld.2.1, by rw [World.cell?_setCell_other _ _ _ _ (by simp <;> omega), World.cell?_setCell_other _ _ _ _ (by simp <;> omega)]; exact hHeld.2.2⟩) (fun hHeld => ?_)
      clear hK K
      try simp only [Act.put, List.getElem_toArray, List.getElem_cons_succ, List.getElem_cons_zero, List.setIfInBounds_toArray, List.set_cons_zero, List.set_cons_succ]
      refine wpAnyH_take (i := 5) (v := ?_) rfl (by kernel_rfl) (by kernel_rfl) (by kernel_rfl) (fun _ _ _ h => h) (Or.inl ⟨by rfl, ?_⟩) hHeld ?_
      rotate_left
      focus (intro wq hq; clear hq; go_simp; try with_reducible rfl)
      simp only [Act.put, List.getElem_toArray, List.getElem_cons_succ, List.getElem_cons_zero, List.setIfInBounds_toArray, List.set_cons_zero, List.set_cons_succ]
      refine wpAnyH_done (by kernel_rfl) ?_ _
      have hv9 : -1000000 ≤ v9 ∧ v9 ≤ 1000000 := by simp at hm9; omega
      obtain ⟨z0, z1, zf⟩ := HS9.out.2.1
      have HH := Lib.hid hHeld
      clear hHeld
      go_wp2_with fail
      (try simp only [Exit.inBlock, Exit.then])
      refine l11p_ret (b := w.heap.size) HS9.out.2.1 rfl rfl ?_
      exact ⟨p, _, _, v9, rfl, HS9.out.put ht2 hc2, hv9.1, hv9.2, HH.out.1⟩
    · go_upto_region 5 with fail
      refine wp_region_held_drew (S := fun w' => Gr w w' none ∧ w'.cell? ⟨w3.heap.size, 0, none⟩ = some (.slice at' p.types.length ct) ∧ w'.cell? ⟨w3.heap.size, 1, none⟩ = some (.slice ab p.body.length cb)) (by kernel_rfl) (⟨HS.out.1.drew, HS.out.2.2.1.1, HS.out.2.2.1.2.1⟩) (fun hHeld => ?_)
      refine wpAnyH_take (i := 0) (v := ?_) rfl (by kernel_rfl) (by kernel_rfl) (by kernel_rfl) (fun _ _ _ h => h) (Or.inl ⟨by rfl, ?_⟩) hHeld ?_
      rotate_left
      focus (intro wq hq; obtain ⟨_, k0, k1⟩ := hq; go_simp; try with_reducible rfl)
      simp only [Act.put, List.getElem_toArray, List.getElem_cons_zero, List.setIfInBounds_toArray, List.set_cons_zero, List.set_cons_succ]
      refine wpAnyH_take (i := 1) (v := ?_) rfl (by kernel_rfl) (by kernel_rfl) (by kernel_rfl) (fun _ _ _ h => h) (Or.inl ⟨by rfl, ?_⟩) hHeld ?_
      rotate_left
      focus (intro wq hq; clear hq; go_simp; try with_reducible rfl)
      simp only [Act.put, List.getElem_toArray, List.getElem_cons_succ, List.getElem_cons_zero, List.setIfInBounds_toArray, List.set_cons_zero, List.set_cons_succ]
      refine wpAnyH_take (i := 2) (v := ?_) rfl (by kernel_rfl) (by kernel_rfl) (by kernel_rfl) (fun _ _ _ h => h) (Or.inl ⟨by rfl, ?_⟩) hHeld ?_
      rotate_left
      focus (intro wq hq; clear hq; go_simp; try with_reducible rfl)
      simp only [Act.put, List.getElem_toArray, List.getElem_cons_succ, List.getElem_cons_zero, List.setIfInBounds_toArray, List.set_cons_zero, List.set_cons_succ]
      refine wpAnyH_take (i := 3) (v := ?_) rfl (by kernel_rfl) (by kernel_rfl) (by kernel_rfl) (fun _ _ _ h => h) (Or.inl ⟨by rfl, ?_⟩) hHeld ?_
      rotate_left
      focus (intro wq hq; obtain ⟨_, k0, k1⟩ := hq; go_simp; try with_reducible rfl)
      simp only [Act.put, List.getElem_toArray, List.getElem_cons_succ, List.getElem_cons_zero, List.setIfInBounds_toArray, List.set_cons_zero, List.set_cons_succ]
      refine wpAnyH_take (i := 4) (v := ?_) rfl (by kernel_rfl) (by kernel_rfl) (by kernel_rfl) (fun _ _ _ h => h) (Or.inl ⟨by rfl, ?_⟩) hHeld ?_
      rotate_left
      focus (intro wq hq; clear hq; go_simp; try with_reducible rfl)
      simp only [Act.put, List.getElem_toArray, List.getElem_cons_succ, List.getElem_cons_zero, List.setIfInBounds_toArray, List.set_cons_zero, List.set_cons_succ]
      refine wpAnyH_ready (rs := [5]) (by kernel_rfl) (by simp) ?_
      refine AllReadyH.cons rfl (fun K hK => ?_) AllReadyH.nil
      go_simp
      refine (pick_any rb (0 + 400 + 3 + 1) p.body.length _ (HS.out.2.2.2.2.2.gr0 ((Gr.refl _ none).drew)) (by omega) (by omega) (by omega)).mono ?_
      rintro e w9 ⟨v9, rfl, hv9a, hv9b, hg9, hr9⟩
      have HS9 := Lib.hid ((HS.out.gr0 ((Gr.refl _ none).drew)).far hg9 hr9 hwr hrb9)
      try dsimp only
      refine hK.out _ _ (⟨Gr.trans hHeld.1 hg9 (fun r e => .inr (by cases e; omega)), Gr.cell hg9 hHeld.2.1 (by simp; omega), Gr.cell hg9 hHeld.2.2 (by simp; omega)⟩) (fun hHeld => ?_)
      clear hK K
      try simp only [Act.put, List.getElem_toArray, List.getElem_cons_succ, List.getElem_cons_zero, List.setIfInBounds_toArray, List.set_cons_zero, List.set_cons_succ]
      refine wpAnyH_ready (rs := [6]) (by kernel_rfl) (by simp) ?_
      refine AllReadyH.cons rfl (fun K hK => ?_) AllReadyH.nil
      obtain ⟨z0, z1, zf⟩ := HS9.out.2.1
      go_simp
      try dsimp only
      refine hK.out _ _ (⟨put2_gr hHeld.1 (Nat.le_refl _), by rw [World.cell?_setCell_other _ _ _ _ (by simp <;> omega), World.cell?_setCell_other _ _ _ _ (by simp <;> omega)]; exact hHeld.2.1, by rw [World.cell?_setCell_other _ _ _ _ (by simp <;> omega), World.cell?_setCell_other _ _ _ _ (by simp <;> omega)]; exact hHeld.2.2⟩) (fun hHeld => ?_)
      clear hK K
      try simp only [Act.put, List.getElem_toArray, List.getElem_cons_succ, List.getElem_cons_zero, List.setIfInBounds_toArray, List.set_cons_zero, List.set_cons_succ]
      refine wpAnyH_take (i := 7) (v := ?_) rfl (by kernel_rfl) (by kernel_rfl) (by kernel_rfl) (fun _ _ _ h => h) (Or.inl ⟨by rfl, ?_⟩) hHeld ?_
      rotate_left
      focus (intro wq hq; clear hq; go_simp; try with_reducible rfl)
      simp only [Act.put, List.getElem_toArray, List.getElem_cons_succ, List.getElem_cons_zero, List.setIfInBounds_toArray, List.set_cons_zero, List.set_cons_succ]
      refine wpAnyH_done (by kernel_rfl) ?_ _
      have hv9 : -1000000 ≤ v9 ∧ v9 ≤ 1000000 := by have := hv9b (by omega); omega
      obtain ⟨z0, z1, zf⟩ := HS9.out.2.1
      have HH := Lib.hid hHeld
      clear hHeld
      go_wp2_with fail
      (try simp only [Exit.inBlock, Exit.then])
      refine l11p_ret (b := w.heap.size) HS9.out.2.1 rfl rfl ?_
      exact ⟨p, _, _, v9, rfl, HS9.out.put ht2 hc2, hv9.1, hv9.2, HH.out.1⟩
theorem fwdD_ret {R : Ending → World → Prop} {tmps : Array Value} {u : World} {b : Nat} {x0 x1 : Value} (hz : Zp u b x0 x1) {v0 v1 v3 : Value} (ht : tmps.getD 2 undef = .pointer (some ⟨b, 0, none⟩)) (h3 : tmps.getD 3 undef = v3) (h : R (.returned (.tuple #[.agg #[v0, v1], v3])) (put2 u b v0 v1)) :
    bodyPost Try.prog Try.f55 R .ret { tmps := tmps, defers := [] } (put2 u b v0 v1) := by
  obtain ⟨c0, c1⟩ := hz.put2 v0 v1
  generalize put2 u b v0 v1 = W at *
  have ht' : tmps[2]?.getD undef = .pointer (some ⟨b, 0, none⟩) := by simpa using ht
  have h3' : tmps[3]?.getD undef = v3 := by simpa using h3
  refine bodyPost_ret (v := .tuple #[.agg #[v0, v1], v3]) ?_ rfl h
  simp [results, Try.results55, go_sem, ht', h3', c0, c1]
set_option maxRecDepth 100000 in
set_option maxHeartbeats 8000000 in
theorem fwdD_any (a : Option Addr) (n c : Nat) (w : World) (h : BytesIn w a n) (hc : n ≤ c) (hn : n ≤ 100000000) : Calls Try.prog 55 #[.slice a n c] w (Drawn1 w) := by
  have hZ := Zp.new w (.slice none 0 0) (.slice none 0 0) 30
  have hA : Gr w (w.alloc (.cells #[.slice none 0 0, .slice none 0 0] 30)) none := (Gr.refl _ _).alloc _
  have hBy := h.gr0 hA
  go_enter Try.func55, Try.ntmps55
  go_wp2_with fail
  refine (open_any a n c _ hBy hc hn).mono ?_
  rintro e w1 ⟨rb, rfl, hR1, hrb, hg1⟩
  have hwr : w.heap.size < rb := by simp at hrb; omega
  have hZ1 := hZ.gr hg1 (by simp)
  have hG1 := hA.trans0 hg1
  have hlt1 := hR1.lt
  clear hZ hA hBy hg1 hrb
  go_wp2_with fail
  refine (pick_any rb 0 4 _ hR1 (by omega) (by omega) (by omega)).mono ?_
  rintro e w2 ⟨v2, rfl, hv2, hv2', hg2, hr2⟩
  have hZ2 := hZ1.gr hg2 (by simp; omega)
  have hG2 := hG1.trans hg2 (fun r e => .inr (by cases e; omega))
  have hlt2 := hr2.lt
  have hBy := h.gr0 hG2
  clear hZ1 hG1 hg2 hR1 h hv2'
  by_cases hp : 0 < v2
  · go_upto_region 4 with fail
    obtain ⟨wT, hwT⟩ : ∃ wT : World, wT = w2.alloc (.cells #[.string ⟨#[105, 105, 98, 109, 58, 97, 61, 52, 59, 99, 61, 98, 111, 120, 32, 49, 59, 100, 61, 38, 109, 117, 116, 32, 99, 59, 42, 100, 61, 97, 59, 98, 61, 42, 100, 59, 97, 61, 42, 100]⟩, .string ⟨#[105, 105, 98, 58, 97, 61, 52, 59, 99, 61, 98, 111, 120, 32, 49, 59, 42, 99, 61, 97, 59, 98, 61, 42, 99, 59, 97, 61, 98]⟩, .string ⟨#[105, 105, 98, 109, 58, 97, 61, 52, 59, 99, 61, 98, 111, 120, 32, 49, 59, 100, 61, 38, 109, 117, 116, 32, 99, 59, 42, 100, 61, 97, 59, 98, 61, 42, 99]⟩] 9) := ⟨_, rfl⟩
    have hS : StrsAt wT w2.heap.size 3 := by rw [hwT]; exact strs_of (heap1_0 _ _) (by rfl)
    have hgT : Gr w2 wT none := by rw [hwT]; exact (Gr.refl _ _).alloc _
    rw [← hwT]
    have hZ3 := hZ2.gr hgT (by simp)
    have hG3 := hG2.trans0 hgT
    have hr3 := hr2.gr0 hgT
    clear hwT hgT hZ2 hG2 hr2 hBy
    go_wp2_with fail
    refine (pick_any rb (0 + 1) 3 _ hr3 (by omega) (by omega) (by omega)).mono ?_
    rintro e w4 ⟨v4, rfl, hv4, hv4', hg4, hr4⟩
    have hb4 : v4 < 3 := hv4' (by omega)
    obtain ⟨k1, rfl⟩ : ∃ k1 : Nat, v4 = k1 := ⟨v4.toNat, by omega⟩
    obtain ⟨s, hcs, hss⟩ := (hS.gr hg4 (by simp; omega)) k1 (by omega)
    have hZ4 := hZ3.gr hg4 (by simp; omega)
    have hG4 := hG3.trans hg4 (fun r e => .inr (by cases e; omega))
    have hlt4 := hr4.lt
    clear hS hZ3 hG3 hr3 hg4 hv4' hv4
    go_wp2_with fail
    refine (parseProgram_any s _ hss).mono ?_
    rintro e w5 ⟨p, at', ab, ct, cb, b, rfl, hT5, hB5, ht6, hc30, hg5⟩
    have hlb := count_length p.body
    have ht2 : p.types.length ≤ 7 := by omega
    have hc2 : St.count p.body ≤ 4000 := by omega
    have hsz5 := hg5.size
    have hrb9 : rb ≠ w5.heap.size := by omega
    have hgA : Gr w5 (w5.alloc (.cells #[.slice at' p.types.length ct, .slice ab p.body.length cb] 30)) none := (Gr.refl _ _).alloc _
    have hS0 : DrS w (w5.alloc (.cells #[.slice at' p.types.length ct, .slice ab p.body.length cb] 30)) rb (0 + 1 + 1) w5.heap.size p at' ab ct cb :=
      ⟨(hG4.trans0 hg5).trans0 hgA, (hZ4.gr hg5 (by simp)).gr hgA (by simp), Zp.new _ _ _ _, (hT5.mono (fun k _ hk => by unfold New at hk; exact ⟨by omega, by omega⟩) (fun _ _ _ _ h => h)).gr0 hgA, (hB5.sub (fun k _ hk => by unfold New at hk; exact ⟨by omega, by omega⟩)).gr0 hgA, (hr4.gr0 hg5).gr0 hgA⟩
    clear hZ4 hG4 hg5 hr4 hT5 hB5 hcs hss
    go_upto_region 5 with fail
    obtain ⟨wA, hwA⟩ : ∃ wA : World, wA = w5.alloc (.cells #[.slice at' p.types.length ct, .slice ab p.body.length cb] 30) := ⟨_, rfl⟩
    rw [← hwA] at hS0 hgA ⊢
    have hszA : w5.heap.size < wA.heap.size := by rw [hwA]; simp
    clear hwA
    have HS := Lib.hid hS0
    clear hS0 hgA
    refine wp_region_held_drew (S := fun w' => Gr w w' none ∧ w'.cell? ⟨w5.heap.size, 0, none⟩ = some (.slice at' p.types.length ct) ∧ w'.cell? ⟨w5.heap.size, 1, none⟩ = some (.slice ab p.body.length cb)) (by kernel_rfl) (⟨HS.out.1.drew, HS.out.2.2.1.1, HS.out.2.2.1.2.1⟩) (fun hHeld => ?_)
    refine wpAnyH_take (i := 0) (v := ?_) rfl (by kernel_rfl) (by kernel_rfl) (by kernel_rfl) (fun _ _ _ h => h) (Or.inl ⟨by rfl, ?_⟩) hHeld ?_
    rotate_left
    focus (intro wq hq; obtain ⟨_, k0, k1⟩ := hq; go_simp; try with_reducible rfl)
    simp only [Act.put, List.getElem_toArray, List.getElem_cons_zero, List.setIfInBounds_toArray, List.set_cons_zero, List.set_cons_succ]
    refine wpAnyH_take (i := 1) (v := ?_) rfl (by kernel_rfl) (by kernel_rfl) (by kernel_rfl) (fun _ _ _ h => h) (Or.inl ⟨by rfl, ?_⟩) hHeld ?_
    rotate_left
    focus (intro wq hq; clear hq; go_simp; try with_reducible rfl)
    simp only [Act.put, List.getElem_toArray, List.getElem_cons_succ, List.getElem_cons_zero, List.setIfInBounds_toArray, List.set_cons_zero, List.set_cons_succ]
    refine wpAnyH_ready (rs := [2]) (by kernel_rfl) (by simp) ?_
    refine AllReadyH.cons rfl (fun K hK => ?_) AllReadyH.nil
    go_simp
    try dsimp only
    refine hK.out _ _ (⟨Gr.alloc hHeld.1 _, ((Gr.refl _ none).alloc _).cell hHeld.2.1 (by simp), ((Gr.refl _ none).alloc _).cell hHeld.2.2 (by simp)⟩) (fun hHeld => ?_)
    clear hK K
    try simp only [Act.put, List.getElem_toArray, List.getElem_cons_succ, List.getElem_cons_zero, List.setIfInBounds_toArray, List.set_cons_zero, List.set_cons_succ]
    refine wpAnyH_ready (rs := [3]) (by kernel_rfl) (by simp) ?_
    refine AllReadyH.cons rfl (fun K hK => ?_) AllReadyH.nil
    go_simp
    refine (num_any rb (0 + 1 + 1) [3, 2, 3, 4] 4 rfl _ _ _ (HS.out.2.2.2.2.2.gr0 ((Gr.refl _ none).drew.alloc _)) (by omega) (inAt_lit _ rb (by simp; omega) _ _ rfl _) (by omega) (by omega)).mono ?_
    rintro e w9 ⟨v9, hm9, rfl, hg9, hr9⟩
    have HS9 := Lib.hid ((HS.out.gr0 ((Gr.refl _ none).drew.alloc _)).far hg9 hr9 hwr hrb9)
    try dsimp only
    refine hK.out _ _ (⟨Gr.trans hHeld.1 hg9 (fun r e => .inr (by cases e; omega)), Gr.cell hg9 hHeld.2.1 (by simp; omega), Gr.cell hg9 hHeld.2.2 (by simp; omega)⟩) (fun hHeld => ?_)
    clear hK K
    try simp only [Act.put, List.getElem_toArray, List.getElem_cons_succ, List.getElem_cons_zero, List.setIfInBounds_toArray, List.set_cons_zero, List.set_cons_succ]
    refine wpAnyH_ready (rs := [4]) (by kernel_rfl) (by simp) ?_
    refine AllReadyH.cons rfl (fun K hK => ?_) AllReadyH.nil
    obtain ⟨z0, z1, zf⟩ := HS9.out.2.1
    go_simp
    try dsimp only
    refine hK.out _ _ (⟨put2_gr hHeld.1 (Nat.le_refl _), by rw [World.cell?_setCell_other _ _ _ _ (by simp <;> omega), World.cell?_setCell_other _ _ _ _ (by simp <;> omega)]; exact hHeld.2.1, by rw [World.cell?_setCell_other _ _ _ _ (by simp <;> omega), World.cell?_setCell_other _ _ _ _ (by simp <;> omega)]; exact hHeld.2.2⟩) (fun hHeld => ?_)
    clear hK K
    try simp only [Act.put, List.getElem_toArray, List.getElem_cons_succ, List.getElem_cons_zero, List.setIfInBounds_toArray, List.set_cons_zero, List.set_cons_succ]
    refine wpAnyH_take (i := 5) (v := ?_) rfl (by kernel_rfl) (by kernel_rfl) (by kernel_rfl) (fun _ _ _ h => h) (Or.inl ⟨by rfl, ?_⟩) hHeld ?_
    rotate_left
    focus (intro wq hq; clear hq; go_simp; try with_reducible rfl)
    simp only [Act.put, List.getElem_toArray, List.getElem_cons_succ, List.getElem_cons_zero, List.setIfInBounds_toArray, List.set_cons_zero, List.set_cons_succ]
    refine wpAnyH_done (by kernel_rfl) ?_ _
    have hv9 : -1000000 ≤ v9 ∧ v9 ≤ 1000000 := by simp at hm9; omega
    obtain ⟨z0, z1, zf⟩ := HS9.out.2.1
    have HH := Lib.hid hHeld
    clear hHeld
    go_wp2_with fail
    (try simp only [Exit.inBlock, Exit.then])
    refine fwdD_ret (b := w.heap.size) HS9.out.2.1 rfl rfl ?_
    exact ⟨p, _, _, v9, rfl, HS9.out.put ht2 hc2, hv9.1, hv9.2, HH.out.1⟩
  · obtain rfl : v2 = 0 := by omega
    go_wp2_with fail
    refine (l11Place_any a n c _ hBy hc hn).mono ?_
    rintro e w3 ⟨p, v0, v1, k, rfl, ⟨at', ab, ct, cb, rfl, rfl, hT, hB, ht, hc2⟩, hk1, hk2, hg3⟩
    have HZ := Lib.hid (hZ2.gr hg3 (by simp))
    have HG := Lib.hid (hG2.trans0 hg3)
    have hsz2 : w.heap.size < w2.heap.size := hZ2.lt
    clear hG2 hZ2 hg3
    obtain ⟨z0, z1, zf⟩ := HZ.out
    have hT' := Lib.hid hT
    have hB' := Lib.hid hB
    clear hT hB
    go_wp2_with fail
    (try simp only [Exit.inBlock, Exit.then])
    refine fwdD_ret (b := w.heap.size) HZ.out rfl rfl ?_
    exact ⟨p, _, _, k, rfl, PrAt.put (Nat.le_refl _) hsz2 hT'.out hB'.out ht hc2 rfl rfl, hk1, hk2, put2_gr HG.out (Nat.le_refl _)⟩
end Go.Proofs.Ytdnhinkjmjpnnaa

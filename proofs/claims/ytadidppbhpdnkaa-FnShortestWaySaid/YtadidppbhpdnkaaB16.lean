/- Walks of drawn arguments, weakly: places, pairs of points, uses. -/
import Derived.Test.YtadidppbhpdnkaaB15

import Derived.Test.YtadidppbhpdnkaaS1

namespace Go.Proofs.Ytadidppbhpdnkaa

open Go.RowKit

def Off2 (w : World) (rb : Nat) (k _ : Nat) : Prop := w.heap.size < k ∧ k ≠ rb
/-- Under way: the result's two cells, a local copy of the program in block b, the reader. -/
def DrS (w u : World) (rb P b : Nat) (p : Pr) (at' ab : Option Addr) (ct cb : Nat) : Prop :=
  Gr w u none ∧ Zp u w.heap.size (.slice none 0 0) (.slice none 0 0) ∧ Zp u b (.slice at' p.types.length ct) (.slice ab p.body.length cb) ∧ InAt u (Off2 w rb) p.types at' ∧ SlAt u (Off2 w rb) p.body ab ∧ Rd u rb P
theorem DrS.gr0 {w u u' : World} {rb P b : Nat} {p : Pr} {at' ab : Option Addr} {ct cb : Nat} (h : DrS w u rb P b p at' ab ct cb) (hg : Gr u u' none) : DrS w u' rb P b p at' ab ct cb :=
  ⟨h.1.trans0 hg, h.2.1.gr hg (by simp), h.2.2.1.gr hg (by simp), h.2.2.2.1.gr0 hg, h.2.2.2.2.1.gr0 hg, h.2.2.2.2.2.gr0 hg⟩
theorem DrS.far {w u u' : World} {rb P Q b : Nat} {p : Pr} {at' ab : Option Addr} {ct cb : Nat} (h : DrS w u rb P b p at' ab ct cb) (hg : Gr u u' (some rb)) (hr : Rd u' rb Q) (h1 : w.heap.size < rb) (h2 : rb ≠ b) : DrS w u' rb Q b p at' ab ct cb :=
  ⟨h.1.trans hg (fun r e => .inr (by cases e; omega)), h.2.1.gr hg (by simp; omega), h.2.2.1.gr hg (by simp; exact h2), InAt.gr hg (fun k _ hk e => hk.2 (by cases e; rfl)) h.2.2.2.1, SlAt.gr hg (fun k _ hk e => hk.2 (by cases e; rfl)) h.2.2.2.2.1, hr⟩
theorem DrS.put {w u : World} {rb P b : Nat} {p : Pr} {at' ab : Option Addr} {ct cb : Nat} (h : DrS w u rb P b p at' ab ct cb) (h6 : p.types.length ≤ 7) (hc : St.count p.body ≤ 4000) : PrAt w (put2 u w.heap.size (.slice at' p.types.length ct) (.slice ab p.body.length cb)) p (.slice at' p.types.length ct) (.slice ab p.body.length cb) :=
  ⟨at', ab, ct, cb, rfl, rfl, (InAt.gr (put2_own _ _ _ _) (fun k _ hk e => by cases e; exact absurd hk.1 (by omega)) h.2.2.2.1).mono (fun k _ hk => by have := hk.1; unfold New; omega) (fun _ _ _ _ h => h), (SlAt.gr (put2_own _ _ _ _) (fun k _ hk e => by cases e; exact absurd hk.1 (by omega)) h.2.2.2.2.1).sub (fun k _ hk => by have := hk.1; unfold New; omega), h6, hc⟩
theorem l3p_ret {R : Ending → World → Prop} {tmps : Array Value} {u : World} {b : Nat} {x0 x1 : Value} (hz : Zp u b x0 x1) {v0 v1 v3 : Value} (ht : tmps.getD 2 undef = .pointer (some ⟨b, 0, none⟩)) (h3 : tmps.getD 3 undef = v3) (h : R (.returned (.tuple #[.agg #[v0, v1], v3])) (put2 u b v0 v1)) :
    bodyPost Try.prog Try.f59 R .ret { tmps := tmps, defers := [] } (put2 u b v0 v1) := by
  obtain ⟨c0, c1⟩ := hz.put2 v0 v1
  generalize put2 u b v0 v1 = W at *
  have ht' : tmps[2]?.getD undef = .pointer (some ⟨b, 0, none⟩) := by simpa using ht
  have h3' : tmps[3]?.getD undef = v3 := by simpa using h3
  refine bodyPost_ret (v := .tuple #[.agg #[v0, v1], v3]) ?_ rfl h
  simp [results, Try.results59, go_sem, ht', h3', c0, c1]
set_option maxRecDepth 100000 in
set_option maxHeartbeats 8000000 in
theorem l3Place_any (a : Option Addr) (n c : Nat) (w : World) (h : BytesIn w a n) (hc : n ≤ c) (hn : n ≤ 100000000) : Calls Try.prog 59 #[.slice a n c] w (Drawn1 w) := by
  have hZ := Zp.new w (.slice none 0 0) (.slice none 0 0) 26
  have hA : Gr w (w.alloc (.cells #[.slice none 0 0, .slice none 0 0] 26)) none := (Gr.refl _ _).alloc _
  have hBy := h.gr0 hA
  go_enter Try.func59, Try.ntmps59
  go_wp2_with fail
  refine (open_any a n c _ hBy hc hn).mono ?_
  rintro e w1 ⟨rb, rfl, hR1, hrb, hg1⟩
  have hwr : w.heap.size < rb := by simp at hrb; omega
  have hZ1 := hZ.gr hg1 (by simp)
  have hG1 := hA.trans0 hg1
  have hlt1 := hR1.lt
  clear hZ hA hBy h hg1 hrb
  go_wp2_with fail
  refine (l2Branch_any rb 0 w1 hR1 (by omega)).mono ?_
  rintro e w2 ⟨p, at', ab, ct, cb, rfl, hT2, hB2, ht2, hc2, hg2, hr2⟩
  have hlb := count_length p.body
  have hlt2 := hr2.lt
  have hrb9 : rb ≠ w2.heap.size := by omega
  have hHS : DrS w w2 rb 500 w2.heap.size p at' ab ct cb → True := fun _ => trivial
  have hgA : Gr w2 (w2.alloc (.cells #[.slice at' p.types.length ct, .slice ab p.body.length cb] 26)) none := (Gr.refl _ _).alloc _
  have hS0 : DrS w (w2.alloc (.cells #[.slice at' p.types.length ct, .slice ab p.body.length cb] 26)) rb 500 w2.heap.size p at' ab ct cb :=
    ⟨(hG1.trans hg2 (fun r e => .inr (by cases e; omega))).trans0 hgA, (hZ1.gr hg2 (by simp; omega)).gr hgA (by simp), Zp.new _ _ _ _, (hT2.mono (fun k _ hk => by unfold New at hk; exact ⟨by omega, by omega⟩) (fun _ _ _ _ h => h)).gr0 hgA, (hB2.sub (fun k _ hk => by unfold New at hk; exact ⟨by omega, by omega⟩)).gr0 hgA, hr2.gr0 hgA⟩
  clear hZ1 hG1 hg2 hR1 hT2 hB2 hr2 hHS
  go_wp2_with fail
  obtain ⟨wA, hwA⟩ : ∃ wA : World, wA = w2.alloc (.cells #[.slice at' p.types.length ct, .slice ab p.body.length cb] 26) := ⟨_, rfl⟩
  rw [← hwA] at hS0 hgA ⊢
  clear hwA
  have HS0 := Lib.hid hS0
  clear hS0
  refine (specPointsOf_any p _ _ _ _ _ HS0.out.2.2.2.1.any HS0.out.2.2.2.2.1.any (by omega) (by omega)).mono ?_
  rintro e w3 ⟨M, a3, c3, hM, rfl, hP3, hg3⟩
  have hMl : M.length ≤ 61 := by rw [hM]; exact ptsOf_le p
  have HS1 := Lib.hid (HS0.out.gr0 hg3)
  have hsz3 : w2.heap.size < w3.heap.size := HS1.out.2.2.1.lt
  clear HS0 hM hP3 hg3 hgA
  by_cases hM0 : M.length = 0
  · have hM0' : ((M.length : Int) == 0) = true := by rw [hM0]; rfl
    have HM0 := Lib.hid hM0
    clear hM0
    go_upto_region 5 with fail
    have HS := HS1
    refine wp_region_held_drew (S := fun w' => Gr w w' none ∧ w'.cell? ⟨w2.heap.size, 0, none⟩ = some (.slice at' p.types.length ct) ∧ w'.cell? ⟨w2.heap.size, 1, none⟩ = some (.slice ab p.body.length cb)) (by kernel_rfl) (⟨HS.out.1.drew, HS.out.2.2.1.1, HS.out.2.2.1.2.1⟩) (fun hHeld => ?_)
    refine wpAnyH_take (i := 0) (v := ?_) rfl (by kernel_rfl) (by kernel_rfl) (by kernel_rfl) (fun _ _ _ h => h) (Or.inl ⟨by rfl, ?_⟩) hHeld ?_
    rotate_left
    focus (intro wq hq; obtain ⟨_, k0, k1⟩ := hq; go_simp; try with_reducible rfl)
    simp only [Act.put, List.getElem_toArray, List.getElem_cons_zero, List.setIfInBounds_toArray, List.set_cons_zero, List.set_cons_succ]
    refine wpAnyH_take (i := 1) (v := ?_) rfl (by kernel_rfl) (by kernel_rfl) (by kernel_rfl) (fun _ _ _ h => h) (Or.inl ⟨by rfl, ?_⟩) hHeld ?_
    rotate_left
    focus (intro wq hq; clear hq; go_simp; try with_reducible rfl)
    simp only [Act.put, List.getElem_toArray, List.getElem_cons_succ, List.getElem_cons_zero, List.setIfInBounds_toArray, List.set_cons_zero, List.set_cons_succ]
    refine wpAnyH_ready (rs := [2]) (by kernel_rfl) (by simp) ?_
    refine AllReadyH.cons rfl (fun K hK => ?_) AllReadyH.nil
    go_simp
    try dsimp only
    refine hK.out _ _ (⟨Gr.alloc hHeld.1 _, ((Gr.refl _ none).alloc _).cell hHeld.2.1 (by simp), ((Gr.refl _ none).alloc _).cell hHeld.2.2 (by simp)⟩) (fun hHeld => ?_)
    clear hK K
    try simp only [Act.put, List.getElem_toArray, List.getElem_cons_succ, List.getElem_cons_zero, List.setIfInBounds_toArray, List.set_cons_zero, List.set_cons_succ]
    refine wpAnyH_ready (rs := [3]) (by kernel_rfl) (by simp) ?_
    refine AllReadyH.cons rfl (fun K hK => ?_) AllReadyH.nil
    go_simp
    refine (num_any rb 500 [-1, 60, 0] 3 rfl _ _ _ (HS.out.2.2.2.2.2.gr0 ((Gr.refl _ none).drew.alloc _)) (by omega) (inAt_lit _ rb (by simp; omega) _ _ rfl _) (by omega) (by omega)).mono ?_
    rintro e w9 ⟨v9, hm9, rfl, hg9, hr9⟩
    have HS9 := Lib.hid ((HS.out.gr0 ((Gr.refl _ none).drew.alloc _)).far hg9 hr9 hwr hrb9)
    try dsimp only
    refine hK.out _ _ (⟨Gr.trans hHeld.1 hg9 (fun r e => .inr (by cases e; omega)), Gr.cell hg9 hHeld.2.1 (by simp; omega), Gr.cell hg9 hHeld.2.2 (by simp; omega)⟩) (fun hHeld => ?_)
    clear hK K
    try simp only [Act.put, List.getElem_toArray, List.getElem_cons_succ, List.getElem_cons_zero, List.setIfInBounds_toArray, List.set_cons_zero, List.set_cons_succ]
    refine wpAnyH_ready (rs := [4]) (by kernel_rfl) (by simp) ?_
    refine AllReadyH.cons rfl (fun K hK => ?_) AllReadyH.nil
    obtain ⟨z0, z1, zf⟩ := HS9.out.2.1
    go_simp
    try dsimp only
    refine hK.out _ _ (⟨put2_gr hHeld.1 (Nat.le_refl _), by rw [World.cell?_setCell_other _ _ _ _ (by simp <;> omega), World.cell?_setCell_other _ _ _ _ (by simp <;> omega)]; exact hHeld.2.1, by rw [World.cell?_setCell_other _ _ _ _ (by simp <;> omega), World.cell?_setCell_other _ _ _ _ (by simp <;> omega)]; exact hHeld.2.2⟩) (fun hHeld => ?_)
    clear hK K
    try simp only [Act.put, List.getElem_toArray, List.getElem_cons_succ, List.getElem_cons_zero, List.setIfInBounds_toArray, List.set_cons_zero, List.set_cons_succ]
    refine wpAnyH_take (i := 5) (v := ?_) rfl (by kernel_rfl) (by kernel_rfl) (by kernel_rfl) (fun _ _ _ h => h) (Or.inl ⟨by rfl, ?_⟩) hHeld ?_
    rotate_left
    focus (intro wq hq; clear hq; go_simp; try with_reducible rfl)
    simp only [Act.put, List.getElem_toArray, List.getElem_cons_succ, List.getElem_cons_zero, List.setIfInBounds_toArray, List.set_cons_zero, List.set_cons_succ]
    refine wpAnyH_done (by kernel_rfl) ?_ _
    have hv9 : -1000000 ≤ v9 ∧ v9 ≤ 1000000 := by simp at hm9; omega
    obtain ⟨z0, z1, zf⟩ := HS9.out.2.1
    have HH := Lib.hid hHeld
    clear hHeld
    go_wp2_with fail
    (try simp only [Exit.inBlock, Exit.then])
    refine l3p_ret (b := w.heap.size) HS9.out.2.1 rfl rfl ?_
    exact ⟨p, _, _, v9, rfl, HS9.out.put ht2 hc2, hv9.1, hv9.2, HH.out.1⟩
  · have hM0' : ((M.length : Int) == 0) = false := beq_eq_false_iff_ne.2 (by omega)
    go_wp2_with fail
    refine (pick_any rb 500 12 _ HS1.out.2.2.2.2.2 (by omega) (by omega) (by omega)).mono ?_
    rintro e w4 ⟨v4, rfl, hv4, hv4', hg4, hr4⟩
    have HS := Lib.hid (HS1.out.far hg4 hr4 hwr hrb9)
    have hsz4 : w2.heap.size < w4.heap.size := HS.out.2.2.1.lt
    clear HS1 hg4 hr4
    by_cases hv : v4 = 0
    · subst hv
      go_upto_region 5 with fail
      refine wp_region_held_drew (S := fun w' => Gr w w' none ∧ w'.cell? ⟨w2.heap.size, 0, none⟩ = some (.slice at' p.types.length ct) ∧ w'.cell? ⟨w2.heap.size, 1, none⟩ = some (.slice ab p.body.length cb)) (by kernel_rfl) (⟨HS.out.1.drew, HS.out.2.2.1.1, HS.out.2.2.1.2.1⟩) (fun hHeld => ?_)
      refine wpAnyH_take (i := 0) (v := ?_) rfl (by kernel_rfl) (by kernel_rfl) (by kernel_rfl) (fun _ _ _ h => h) (Or.inl ⟨by rfl, ?_⟩) hHeld ?_
      rotate_left
      focus (intro wq hq; obtain ⟨_, k0, k1⟩ := hq; go_simp; try with_reducible rfl)
      simp only [Act.put, List.getElem_toArray, List.getElem_cons_zero, List.setIfInBounds_toArray, List.set_cons_zero, List.set_cons_succ]
      refine wpAnyH_take (i := 1) (v := ?_) rfl (by kernel_rfl) (by kernel_rfl) (by kernel_rfl) (fun _ _ _ h => h) (Or.inl ⟨by rfl, ?_⟩) hHeld ?_
      rotate_left
      focus (intro wq hq; clear hq; go_simp; try with_reducible rfl)
      simp only [Act.put, List.getElem_toArray, List.getElem_cons_succ, List.getElem_cons_zero, List.setIfInBounds_toArray, List.set_cons_zero, List.set_cons_succ]
      refine wpAnyH_ready (rs := [2]) (by kernel_rfl) (by simp) ?_
      refine AllReadyH.cons rfl (fun K hK => ?_) AllReadyH.nil
      go_simp
      try dsimp only
      refine hK.out _ _ (⟨Gr.alloc hHeld.1 _, ((Gr.refl _ none).alloc _).cell hHeld.2.1 (by simp), ((Gr.refl _ none).alloc _).cell hHeld.2.2 (by simp)⟩) (fun hHeld => ?_)
      clear hK K
      try simp only [Act.put, List.getElem_toArray, List.getElem_cons_succ, List.getElem_cons_zero, List.setIfInBounds_toArray, List.set_cons_zero, List.set_cons_succ]
      refine wpAnyH_ready (rs := [3]) (by kernel_rfl) (by simp) ?_
      refine AllReadyH.cons rfl (fun K hK => ?_) AllReadyH.nil
      go_simp
      refine (num_any rb (500 + 1) [-1, 60, 0] 3 rfl _ _ _ (HS.out.2.2.2.2.2.gr0 ((Gr.refl _ none).drew.alloc _)) (by omega) (inAt_lit _ rb (by simp; omega) _ _ rfl _) (by omega) (by omega)).mono ?_
      rintro e w9 ⟨v9, hm9, rfl, hg9, hr9⟩
      have HS9 := Lib.hid ((HS.out.gr0 ((Gr.refl _ none).drew.alloc _)).far hg9 hr9 hwr hrb9)
      try dsimp only
      refine hK.out _ _ (⟨Gr.trans hHeld.1 hg9 (fun r e => .inr (by cases e; omega)), Gr.cell hg9 hHeld.2.1 (by simp; omega), Gr.cell hg9 hHeld.2.2 (by simp; omega)⟩) (fun hHeld => ?_)
      clear hK K
      try simp only [Act.put, List.getElem_toArray, List.getElem_cons_succ, List.getElem_cons_zero, List.setIfInBounds_toArray, List.set_cons_zero, List.set_cons_succ]
      refine wpAnyH_ready (rs := [4]) (by kernel_rfl) (by simp) ?_
      refine AllReadyH.cons rfl (fun K hK => ?_) AllReadyH.nil
      obtain ⟨z0, z1, zf⟩ := HS9.out.2.1
      go_simp
      try dsimp only
      refine hK.out _ _ (⟨put2_gr hHeld.1 (Nat.le_refl _), by rw [World.cell?_setCell_other _ _ _ _ (by simp <;> omega), World.cell?_setCell_other _ _ _ _ (by simp <;> omega)]; exact hHeld.2.1, by rw [World.cell?_setCell_other _ _ _ _ (by simp <;> omega), World.cell?_setCell_other _ _ _ _ (by simp <;> omega)]; exact hHeld.2.2⟩) (fun hHeld => ?_)
      clear hK K
      try simp only [Act.put, List.getElem_toArray, List.getElem_cons_succ, List.getElem_cons_zero, List.setIfInBounds_toArray, List.set_cons_zero, List.set_cons_succ]
      refine wpAnyH_take (i := 5) (v := ?_) rfl (by kernel_rfl) (by kernel_rfl) (by kernel_rfl) (fun _ _ _ h => h) (Or.inl ⟨by rfl, ?_⟩) hHeld ?_
      rotate_left
      focus (intro wq hq; clear hq; go_simp; try with_reducible rfl)
      simp only [Act.put, List.getElem_toArray, List.getElem_cons_succ, List.getElem_cons_zero, List.setIfInBounds_toArray, List.set_cons_zero, List.set_cons_succ]
      refine wpAnyH_done (by kernel_rfl) ?_ _
      have hv9 : -1000000 ≤ v9 ∧ v9 ≤ 1000000 := by simp at hm9; omega
      obtain ⟨z0, z1, zf⟩ := HS9.out.2.1
      have HH := Lib.hid hHeld
      clear hHeld
      go_wp2_with fail
      (try simp only [Exit.inBlock, Exit.then])
      refine l3p_ret (b := w.heap.size) HS9.out.2.1 rfl rfl ?_
      exact ⟨p, _, _, v9, rfl, HS9.out.put ht2 hc2, hv9.1, hv9.2, HH.out.1⟩
    · go_upto_region 6 with fail
      refine wp_region_held_drew (S := fun w' => Gr w w' none ∧ w'.cell? ⟨w2.heap.size, 0, none⟩ = some (.slice at' p.types.length ct) ∧ w'.cell? ⟨w2.heap.size, 1, none⟩ = some (.slice ab p.body.length cb)) (by kernel_rfl) (⟨HS.out.1.drew, HS.out.2.2.1.1, HS.out.2.2.1.2.1⟩) (fun hHeld => ?_)
      refine wpAnyH_take (i := 0) (v := ?_) rfl (by kernel_rfl) (by kernel_rfl) (by kernel_rfl) (fun _ _ _ h => h) (Or.inl ⟨by rfl, ?_⟩) hHeld ?_
      rotate_left
      focus (intro wq hq; obtain ⟨_, k0, k1⟩ := hq; go_simp; try with_reducible rfl)
      simp only [Act.put, List.getElem_toArray, List.getElem_cons_zero, List.setIfInBounds_toArray, List.set_cons_zero, List.set_cons_succ]
      refine wpAnyH_take (i := 1) (v := ?_) rfl (by kernel_rfl) (by kernel_rfl) (by kernel_rfl) (fun _ _ _ h => h) (Or.inl ⟨by rfl, ?_⟩) hHeld ?_
      rotate_left
      focus (intro wq hq; clear hq; go_simp; try with_reducible rfl)
      simp only [Act.put, List.getElem_toArray, List.getElem_cons_succ, List.getElem_cons_zero, List.setIfInBounds_toArray, List.set_cons_zero, List.set_cons_succ]
      refine wpAnyH_take (i := 2) (v := ?_) rfl (by kernel_rfl) (by kernel_rfl) (by kernel_rfl) (fun _ _ _ h => h) (Or.inl ⟨by rfl, ?_⟩) hHeld ?_
      rotate_left
      focus (intro wq hq; clear hq; go_simp; try with_reducible rfl)
      simp only [Act.put, List.getElem_toArray, List.getElem_cons_succ, List.getElem_cons_zero, List.setIfInBounds_toArray, List.set_cons_zero, List.set_cons_succ]
      refine wpAnyH_ready (rs := [3]) (by kernel_rfl) (by simp) ?_
      refine AllReadyH.cons rfl (fun K hK => ?_) AllReadyH.nil
      go_simp
      refine (pick_any rb (500 + 1) M.length _ (HS.out.2.2.2.2.2.gr0 ((Gr.refl _ none).drew)) (by omega) (by omega) (by omega)).mono ?_
      rintro e w9 ⟨v9, rfl, hv9a, hv9b, hg9, hr9⟩
      have HS9 := Lib.hid ((HS.out.gr0 ((Gr.refl _ none).drew)).far hg9 hr9 hwr hrb9)
      try dsimp only
      refine hK.out _ _ (⟨Gr.trans hHeld.1 hg9 (fun r e => .inr (by cases e; omega)), Gr.cell hg9 hHeld.2.1 (by simp; omega), Gr.cell hg9 hHeld.2.2 (by simp; omega)⟩) (fun hHeld => ?_)
      clear hK K
      try simp only [Act.put, List.getElem_toArray, List.getElem_cons_succ, List.getElem_cons_zero, List.setIfInBounds_toArray, List.set_cons_zero, List.set_cons_succ]
      refine wpAnyH_ready (rs := [4]) (by kernel_rfl) (by simp) ?_
      refine AllReadyH.cons rfl (fun K hK => ?_) AllReadyH.nil
      obtain ⟨z0, z1, zf⟩ := HS9.out.2.1
      go_simp
      try dsimp only
      refine hK.out _ _ (⟨put2_gr hHeld.1 (Nat.le_refl _), by rw [World.cell?_setCell_other _ _ _ _ (by simp <;> omega), World.cell?_setCell_other _ _ _ _ (by simp <;> omega)]; exact hHeld.2.1, by rw [World.cell?_setCell_other _ _ _ _ (by simp <;> omega), World.cell?_setCell_other _ _ _ _ (by simp <;> omega)]; exact hHeld.2.2⟩) (fun hHeld => ?_)
      clear hK K
      try simp only [Act.put, List.getElem_toArray, List.getElem_cons_succ, List.getElem_cons_zero, List.setIfInBounds_toArray, List.set_cons_zero, List.set_cons_succ]
      refine wpAnyH_take (i := 5) (v := ?_) rfl (by kernel_rfl) (by kernel_rfl) (by kernel_rfl) (fun _ _ _ h => h) (Or.inl ⟨by rfl, ?_⟩) hHeld ?_
      rotate_left
      focus (intro wq hq; clear hq; go_simp; try with_reducible rfl)
      simp only [Act.put, List.getElem_toArray, List.getElem_cons_succ, List.getElem_cons_zero, List.setIfInBounds_toArray, List.set_cons_zero, List.set_cons_succ]
      refine wpAnyH_done (by kernel_rfl) ?_ _
      have hv9 : -1000000 ≤ v9 ∧ v9 ≤ 1000000 := by have := hv9b (by omega); omega
      obtain ⟨z0, z1, zf⟩ := HS9.out.2.1
      have HH := Lib.hid hHeld
      clear hHeld
      go_wp2_with fail
      (try simp only [Exit.inBlock, Exit.then])
      refine l3p_ret (b := w.heap.size) HS9.out.2.1 rfl rfl ?_
      exact ⟨p, _, _, v9, rfl, HS9.out.put ht2 hc2, hv9.1, hv9.2, HH.out.1⟩
theorem domsOfD_ret {R : Ending → World → Prop} {tmps : Array Value} {u : World} {b : Nat} {x0 x1 : Value} (hz : Zp u b x0 x1) {v0 v1 v3 : Value} (ht : tmps.getD 2 undef = .pointer (some ⟨b, 0, none⟩)) (h3 : tmps.getD 3 undef = v3) (h : R (.returned (.tuple #[.agg #[v0, v1], v3])) (put2 u b v0 v1)) :
    bodyPost Try.prog Try.f21 R .ret { tmps := tmps, defers := [] } (put2 u b v0 v1) := by
  obtain ⟨c0, c1⟩ := hz.put2 v0 v1
  generalize put2 u b v0 v1 = W at *
  have ht' : tmps[2]?.getD undef = .pointer (some ⟨b, 0, none⟩) := by simpa using ht
  have h3' : tmps[3]?.getD undef = v3 := by simpa using h3
  refine bodyPost_ret (v := .tuple #[.agg #[v0, v1], v3]) ?_ rfl h
  simp [results, Try.results21, go_sem, ht', h3', c0, c1]
theorem domsOfD_any (a : Option Addr) (n c : Nat) (w : World) (h : BytesIn w a n) (hc : n ≤ c) (hn : n ≤ 100000000) : Calls Try.prog 21 #[.slice a n c] w (Drawn1 w) := by
  have hZ := Zp.new w (.slice none 0 0) (.slice none 0 0) 26
  have hA : Gr w (w.alloc (.cells #[.slice none 0 0, .slice none 0 0] 26)) none := (Gr.refl _ _).alloc _
  have hBy := h.gr0 hA
  go_enter Try.func21, Try.ntmps21
  go_wp2_with fail
  refine (l3Place_any a n c _ hBy hc hn).mono ?_
  rintro e w1 ⟨p, v0, v1, k, rfl, ⟨at', ab, ct, cb, rfl, rfl, hT, hB, ht, hc2⟩, hk1, hk2, hg1⟩
  have HZ := Lib.hid (hZ.gr hg1 (by simp))
  have HG := Lib.hid (hA.trans0 hg1)
  clear hA hZ hg1
  obtain ⟨z0, z1, zf⟩ := HZ.out
  have hT' := Lib.hid hT
  have hB' := Lib.hid hB
  clear hT hB
  go_wp2_with fail
  (try simp only [Exit.inBlock, Exit.then])
  refine domsOfD_ret (b := w.heap.size) HZ.out rfl rfl ?_
  exact ⟨p, _, _, k, rfl, PrAt.put (Nat.le_refl _) (by simp) hT'.out hB'.out ht hc2 rfl rfl, hk1, hk2, put2_gr HG.out (Nat.le_refl _)⟩
theorem ptsOfD_ret {R : Ending → World → Prop} {tmps : Array Value} {u : World} {b : Nat} {x0 x1 : Value} (hz : Zp u b x0 x1) {v0 v1 : Value} (ht : tmps.getD 2 undef = .pointer (some ⟨b, 0, none⟩)) (h : R (.returned (.agg #[v0, v1])) (put2 u b v0 v1)) :
    bodyPost Try.prog Try.f34 R .ret { tmps := tmps, defers := [] } (put2 u b v0 v1) := by
  obtain ⟨c0, c1⟩ := hz.put2 v0 v1
  generalize put2 u b v0 v1 = W at *
  have ht' : tmps[2]?.getD undef = .pointer (some ⟨b, 0, none⟩) := by simpa using ht
  refine bodyPost_ret (v := .agg #[v0, v1]) ?_ rfl h
  simp [results, Try.results34, go_sem, ht', c0, c1]
set_option maxRecDepth 100000 in
set_option maxHeartbeats 4000000 in
theorem ptsOfD_any (a : Option Addr) (n c : Nat) (w : World) (h : BytesIn w a n) (hc : n ≤ c) (hn : n ≤ 100000000) : Calls Try.prog 34 #[.slice a n c] w (Drawn0 w) := by
  have hZ := Zp.new w (.slice none 0 0) (.slice none 0 0) 26
  have hA : Gr w (w.alloc (.cells #[.slice none 0 0, .slice none 0 0] 26)) none := (Gr.refl _ _).alloc _
  have hBy := h.gr0 hA
  go_enter Try.func34, Try.ntmps34
  go_wp2_with fail
  refine (open_any a n c _ hBy hc hn).mono ?_
  rintro e w1 ⟨rb, rfl, hR1, hrb, hg1⟩
  have hwr : w.heap.size < rb := by simp at hrb; omega
  have hZ1 := hZ.gr hg1 (by simp)
  have hG1 := hA.trans0 hg1
  have hlt1 := hR1.lt
  clear hZ hA hBy h hg1 hrb
  go_wp2_with fail
  refine (l2Branch_any rb 0 w1 hR1 (by omega)).mono ?_
  rintro e w2 ⟨p, at', ab, ct, cb, rfl, hT2, hB2, ht2, hc2, hg2, hr2⟩
  have HZ := Lib.hid (hZ1.gr hg2 (by simp; omega))
  have HG := Lib.hid (hG1.trans hg2 (fun r e => .inr (by cases e; omega)))
  have HT := Lib.hid hT2
  have HB := Lib.hid hB2
  clear hZ1 hG1 hg2 hR1 hT2 hB2 hr2
  obtain ⟨z0, z1, zf⟩ := HZ.out
  go_wp2_with fail
  (try simp only [Exit.inBlock, Exit.then])
  refine ptsOfD_ret (b := w.heap.size) HZ.out rfl ?_
  exact ⟨p, _, _, rfl, PrAt.put (Nat.le_refl _) (by omega) HT.out HB.out ht2 hc2 rfl rfl, put2_gr HG.out (Nat.le_refl _)⟩
end Go.Proofs.Ytadidppbhpdnkaa

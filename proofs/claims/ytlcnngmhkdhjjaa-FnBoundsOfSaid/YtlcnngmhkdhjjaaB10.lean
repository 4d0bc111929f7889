/- Walks of a drawn program, weakly: some program in new memory. -/
import Derived.Test.YtlcnngmhkdhjjaaB9

namespace Go.Proofs.Ytlcnngmhkdhjjaa

open Go.RowKit

/-- n texts lie in block g. -/
def StrsAt (w : World) (g n : Nat) : Prop := ∀ i, i < n → ∃ s : ByteArray, w.cell? ⟨g, i, none⟩ = some (.string s) ∧ s.size ≤ 1000000
def isStr : Value → Bool | .string s => decide (s.size ≤ 1000) | _ => false
theorem strs_of {w : World} {g : Nat} {cs : Array Value} {t : TypeId} (h : w.heap[g]? = some (.cells cs t (0, 0))) (hs : cs.toList.all isStr = true) : StrsAt w g cs.size := by
  intro i hi
  rw [cell_of_row _ _ _ _ _ _ h]
  have hm : cs[i] ∈ cs.toList := by simp
  have := (List.all_eq_true.1 hs) _ hm
  rw [Array.getElem?_eq_getElem hi]
  cases hv : cs[i] with
  | string s => rw [hv] at this; simp [isStr] at this; exact ⟨s, rfl, by omega⟩
  | _ => rw [hv] at this; simp [isStr] at this
theorem StrsAt.gr {w w' : World} {g n : Nat} {row : Option Nat} (h : StrsAt w g n) (hg : Gr w w' row) (hr : row ≠ some g) : StrsAt w' g n := by
  intro i hi
  obtain ⟨s, hc, hs⟩ := h i hi
  exact ⟨s, hg.cell hc hr, hs⟩
def TextsR (w : World) (e : Ending) (w' : World) : Prop := ∃ g, e = .returned (.slice (some ⟨g, 0, none⟩) 25 25) ∧ StrsAt w' g 25 ∧ w.heap.size ≤ g ∧ Gr w w' none
set_option maxRecDepth 1000000 in
set_option maxHeartbeats 4000000 in
theorem l1Texts_any (w : World) : Calls Try.prog 117 #[] w (TextsR w) := by
  go_enter Try.func117, Try.ntmps117
  go_wp2
  go_ret
  exact ⟨_, rfl, strs_of (heap1_0 _ _) (by rfl), Nat.le_refl _, (Gr.refl _ _).alloc _⟩
/-- A program was drawn: at most tm types and cm statements, at most c picks. -/
def DrawR (rb P c tm cm : Nat) (w : World) (e : Ending) (w' : World) : Prop := ∃ (p : Pr) (at' ab : Option Addr) (ct cb : Nat),
  e = .returned (.agg #[.slice at' p.types.length ct, .slice ab p.body.length cb]) ∧ InAt w' (New w.heap.size) p.types at' ∧ SlAt w' (New w.heap.size) p.body ab ∧ p.types.length ≤ tm ∧ St.count p.body ≤ cm ∧ Gr w w' (some rb) ∧ Rd w' rb (P + c)
/-- The two cells of a program that is to come. -/
def Zp (w1 : World) (b : Nat) (v0 v1 : Value) : Prop := w1.cell? ⟨b, 0, none⟩ = some v0 ∧ w1.cell? ⟨b, 1, none⟩ = some v1 ∧ ∀ o, w1.frozen? ⟨b, o, none⟩ = false
theorem Zp.new (w : World) (v0 v1 : Value) (t : TypeId) : Zp (w.alloc (.cells #[v0, v1] t)) w.heap.size v0 v1 := ⟨cell_of_row _ _ _ _ _ _ (heap1_0 _ _), cell_of_row _ _ _ _ _ _ (heap1_0 _ _), frz_new (heap1_0 _ _)⟩
theorem Zp.gr {w w' : World} {b : Nat} {v0 v1 : Value} {row : Option Nat} (h : Zp w b v0 v1) (hg : Gr w w' row) (hr : row ≠ some b) : Zp w' b v0 v1 :=
  ⟨hg.cell h.1 hr, hg.cell h.2.1 hr, fun o => (hg.frozen (p := ⟨b, o, none⟩) (show b < w.heap.size from lt_of_cell h.1) hr).trans (h.2.2 o)⟩
theorem Zp.lt {w : World} {b : Nat} {v0 v1 : Value} (h : Zp w b v0 v1) : b < w.heap.size := lt_of_cell h.1
theorem Zp.put2 {u : World} {b : Nat} {x0 x1 : Value} (h : Zp u b x0 x1) (v0 v1 : Value) : (put2 u b v0 v1).cell? ⟨b, 0, none⟩ = some v0 ∧ (put2 u b v0 v1).cell? ⟨b, 1, none⟩ = some v1 := by
  unfold Go.Proofs.Ytlcnngmhkdhjjaa.put2
  refine ⟨?_, ?_⟩
  · rw [World.cell?_setCell_other _ _ _ _ (by simp)]
    exact World.cell?_setCell_same _ _ _ h.1
  · refine World.cell?_setCell_same' _ _ _ ?_
    rw [World.cell?_setCell_other _ _ _ _ (by simp), h.2.1]; rfl
theorem draw_ret {R : Ending → World → Prop} {tmps : Array Value} {u : World} {b : Nat} {x0 x1 : Value} (hz : Zp u b x0 x1) {v0 v1 : Value} (ht : tmps.getD 2 undef = .pointer (some ⟨b, 0, none⟩)) (h : R (.returned (.agg #[v0, v1])) (Go.Proofs.Ytlcnngmhkdhjjaa.put2 u b v0 v1)) :
    bodyPost Try.prog Try.f123 R .ret { tmps := tmps, defers := [] } (Go.Proofs.Ytlcnngmhkdhjjaa.put2 u b v0 v1) := by
  obtain ⟨c0, c1⟩ := hz.put2 v0 v1
  generalize Go.Proofs.Ytlcnngmhkdhjjaa.put2 u b v0 v1 = W at *
  refine bodyPost_ret (v := .agg #[v0, v1]) ?_ rfl h
  have ht' : tmps[2]?.getD undef = .pointer (some ⟨b, 0, none⟩) := by simpa using ht
  simp [results, Try.results123, go_sem, ht', c0, c1]
set_option maxRecDepth 100000 in
set_option maxHeartbeats 8000000 in
theorem l1Draw_any (rb P : Nat) (w : World) (hR : Rd w rb P) (hP : P ≤ 5000) : Calls Try.prog 123 #[.pointer (some ⟨rb, 0, none⟩)] w (DrawR rb P 400 6 105 w) := by
  have hrb := hR.lt
  have hZ := Zp.new w (.slice none 0 0) (.slice none 0 0) 26
  have hA : Gr w (w.alloc (.cells #[.slice none 0 0, .slice none 0 0] 26)) (some rb) := (Gr.refl _ _).alloc _
  have hR0 := hR.gr0 ((Gr.refl _ none).alloc (.cells #[.slice none 0 0, .slice none 0 0] 26))
  go_enter Try.func123, Try.ntmps123
  go_wp2_with fail
  refine (l1Texts_any _).mono ?_
  rintro e w1 ⟨g, rfl, hS, hgb, hg1⟩
  have hZ1 := hZ.gr hg1 (by simp)
  have hG1 := hA.trans0 hg1
  have hR1 := hR0.gr0 hg1
  have hgb' : w.heap.size < g := by simp at hgb; omega
  clear hZ hA hR0 hR hg1 hgb
  go_wp2_with fail
  refine (pick_any rb P 25 _ hR1 (by omega) (by omega) (by omega)).mono ?_
  rintro e w2 ⟨v1, rfl, hv1, hv1', hg2, hr2⟩
  have hb1 : v1 < 25 := hv1' (by omega)
  obtain ⟨k1, rfl⟩ : ∃ k1 : Nat, v1 = k1 := ⟨v1.toNat, by omega⟩
  obtain ⟨s, hc, hs⟩ := (hS.gr hg2 (by simp; omega)) k1 (by omega)
  have hZ2 := hZ1.gr hg2 (by simp; omega)
  have hG2 := hG1.trans hg2 (fun r e => .inl e)
  clear hS hZ1 hG1 hR1 hg2 hv1' hv1
  go_wp2_with fail
  refine (parseProgram_any s _ hs).mono ?_
  rintro e w3 ⟨p, at', ab, ct, cb, b, rfl, hT, hB, ht6, hc30, hg3⟩
  have hZ3 := hZ2.gr hg3 (by simp)
  have hG3 := hG2.trans0 hg3
  have hR3 := hr2.gr0 hg3
  have hsz2 : w.heap.size < w2.heap.size := hZ2.lt
  have HT := Lib.hid (show InAt w3 (New (w.heap.size + 1)) p.types at' from hT.mono (fun b _ hb => by unfold New at *; omega) (fun _ _ _ _ h => h))
  have HB := Lib.hid (show SlAt w3 (New (w.heap.size + 1)) p.body ab from hB.sub fun b _ hb => by unfold New at *; omega)
  have hP3 := Zp.new w3 (.slice at' p.types.length ct) (.slice ab p.body.length cb) 26
  have hA3 : ∀ o, Gr w3 (w3.alloc o) none := fun o => (Gr.refl _ _).alloc _
  have HA3 := Lib.hid hA3
  have HZ3 := Lib.hid hZ3
  have HG3 := Lib.hid hG3
  have HP3 := Lib.hid hP3
  clear hZ2 hG2 hr2 hg3 hT hB hc hs hZ3 hG3 hP3 hA3
  go_wp2_with fail
  refine (pick_any rb (P + 1) 3 _ (hR3.gr0 (HA3.out _)) (by omega) (by omega) (by omega)).mono ?_
  rintro e w4 ⟨v2, rfl, hv2, hv2', hg4, hr4⟩
  have hb2 : v2 < 3 := hv2' (by omega)
  have hZ4 := (HZ3.out.gr (HA3.out _) (by simp)).gr hg4 (by simp; omega)
  have hlt3 : rb < w3.heap.size := hR3.lt
  have hP4 := HP3.out.gr hg4 (by simp; omega)
  have HG4 := Lib.hid ((HG3.out.alloc _).trans hg4 (fun r e => .inl e))
  have HT4 := Lib.hid (InAt.gr hg4 (fun b _ hb e => by cases e; unfold New at hb; omega) (HT.out.gr0 (HA3.out _)))
  have HB4 := Lib.hid ((HB.out.gr0 (HA3.out _)).far hg4 (fun r e => by cases e; omega))
  clear hg4 hv2' hR3 HG3 HZ3 HP3 HT HB
  by_cases hpos : 0 < v2
  · obtain ⟨z0, z1, zf⟩ := hZ4
    obtain ⟨p0, p1, pf⟩ := hP4
    have HZ := Lib.hid (show Zp w4 w.heap.size _ _ from ⟨z0, z1, zf⟩)
    go_wp2_with fail
    (try simp only [Exit.inBlock, Exit.then])
    refine draw_ret (b := w.heap.size) HZ.out rfl ?_
    exact ⟨p, at', ab, ct, cb, rfl, HT4.out.put2 (by omega), HB4.out.put2 (by omega), ht6, by omega, HG4.out.trans (put2_own _ _ _ _) (fun r e => .inr (by cases e; exact Nat.le_refl _)), (hr4.far (put2_own _ _ _ _) (fun r e => by cases e; exact hrb)).mono (by omega)⟩
  · have hv20 : v2 = 0 := by omega
    subst hv20
    by_cases hlen : p.types.length = 0
    · obtain ⟨z0, z1, zf⟩ := hZ4
      obtain ⟨p0, p1, pf⟩ := hP4
      have HZ := Lib.hid (show Zp w4 w.heap.size _ _ from ⟨z0, z1, zf⟩)
      have HL0 := Lib.hid hlen
      rw [hlen] at p0
      go_wp2_with fail
      (try simp only [Exit.inBlock, Exit.then])
      refine draw_ret (b := w.heap.size) HZ.out rfl ?_
      exact ⟨p, at', ab, ct, cb, by rw [HL0.out], HT4.out.put2 (by omega), HB4.out.put2 (by omega), ht6, by omega, HG4.out.trans (put2_own _ _ _ _) (fun r e => .inr (by cases e; exact Nat.le_refl _)), (hr4.far (put2_own _ _ _ _) (fun r e => by cases e; exact hrb)).mono (by omega)⟩
    · have hlen' : ((p.types.length : Int) == 0) = false := beq_eq_false_iff_ne.2 (by omega)
      obtain ⟨p0, p1, pf⟩ := hP4
      have HZ4 := Lib.hid hZ4
      have hlt4 : w.heap.size < w4.heap.size := hZ4.lt
      clear hZ4 HT4 HB4 hlen
      go_upto_region 6 with fail
      obtain ⟨wA, hwA⟩ : ∃ wA : World, wA = (w4.alloc (.cells #[.int .i64 1, .int .i64 2, .int .i64 2, .int .i64 3, .int .i64 4, .int .i64 4] 3)).alloc (.cells #[.slice (some ⟨w4.heap.size, 0, none⟩) 6 6, .slice none 0 0] 26) := ⟨_, rfl⟩
      have hgA : Gr w4 wA none := by rw [hwA]; exact ((Gr.refl _ _).alloc _).alloc _
      have hTA : InAt wA (New w4.heap.size) [1, 2, 2, 3, 4, 4] (some ⟨w4.heap.size, 0, none⟩) := by
        rw [hwA]
        refine InAt.of fun i hi => ⟨Nat.le_refl _, ?_⟩
        rw [cell_of_row _ _ _ _ _ _ (heap2_0 _ _ _), Nat.zero_add]
        have : i = 0 ∨ i = 1 ∨ i = 2 ∨ i = 3 ∨ i = 4 ∨ i = 5 := by simp at hi; omega
        rcases this with rfl | rfl | rfl | rfl | rfl | rfl <;> rfl
      have hPA : Zp wA (w4.heap.size + 1) (.slice (some ⟨w4.heap.size, 0, none⟩) 6 6) (.slice none 0 0) := by
        rw [hwA]; exact ⟨cell_of_row _ _ _ _ _ _ (heap2_1 _ _ _), cell_of_row _ _ _ _ _ _ (heap2_1 _ _ _), frz_new (heap2_1 _ _ _)⟩
      have hsA : w4.heap.size + 1 < wA.heap.size := hPA.lt
      rw [← hwA]
      have hZA := HZ4.out.gr hgA (by simp)
      have hRA := hr4.gr0 hgA
      have HGA := Lib.hid (HG4.out.trans0 hgA)
      have HPA := Lib.hid hPA
      have HZA := Lib.hid hZA
      have HTA := Lib.hid hTA
      have hlt4' : rb < w4.heap.size := hr4.lt
      clear hwA hPA hZA hTA HZ4 HG4 hr4 p0 p1 pf
      refine wp_region_held_drew (S := fun w' => Gr w4 w' (some rb) ∧ w'.cell? ⟨w4.heap.size + 1, 0, none⟩ = some (.slice (some ⟨w4.heap.size, 0, none⟩) 6 6)) (by kernel_rfl) (⟨hgA.weaken.drew, HPA.out.1⟩) (fun hHeld => ?_)
      refine wpAnyH_take (i := 0) (v := ?_) rfl (by kernel_rfl) (by kernel_rfl) (by kernel_rfl) (fun _ _ _ h => h) (Or.inl ⟨by rfl, ?_⟩) hHeld ?_
      rotate_left
      focus (intro wq hq; clear hq; go_simp; try with_reducible rfl)
      simp only [Act.put, List.getElem_toArray, List.getElem_cons_zero, List.setIfInBounds_toArray, List.set_cons_zero, List.set_cons_succ]
      refine wpAnyH_take (i := 1) (v := ?_) rfl (by kernel_rfl) (by kernel_rfl) (by kernel_rfl) (fun _ _ _ h => h) (Or.inl ⟨by rfl, ?_⟩) hHeld ?_
      rotate_left
      focus (intro wq hq; clear hq; go_simp; try with_reducible rfl)
      simp only [Act.put, List.getElem_toArray, List.getElem_cons_succ, List.getElem_cons_zero, List.setIfInBounds_toArray, List.set_cons_zero, List.set_cons_succ]
      refine wpAnyH_take (i := 2) (v := ?_) rfl (by kernel_rfl) (by kernel_rfl) (by kernel_rfl) (fun _ _ _ h => h) (Or.inl ⟨by rfl, ?_⟩) hHeld ?_
      rotate_left
      focus (intro wq hq; have k0 := hq.2; go_simp; try with_reducible rfl)
      simp only [Act.put, List.getElem_toArray, List.getElem_cons_succ, List.getElem_cons_zero, List.setIfInBounds_toArray, List.set_cons_zero, List.set_cons_succ]
      refine wpAnyH_take (i := 3) (v := ?_) rfl (by kernel_rfl) (by kernel_rfl) (by kernel_rfl) (fun _ _ _ h => h) (Or.inl ⟨by rfl, ?_⟩) hHeld ?_
      rotate_left
      focus (intro wq hq; clear hq; go_simp; try with_reducible rfl)
      simp only [Act.put, List.getElem_toArray, List.getElem_cons_succ, List.getElem_cons_zero, List.setIfInBounds_toArray, List.set_cons_zero, List.set_cons_succ]
      refine wpAnyH_ready (rs := [4]) (by kernel_rfl) (by simp) ?_
      refine AllReadyH.cons rfl (fun K hK => ?_) AllReadyH.nil
      go_simp
      try dsimp only
      refine hK.out _ _ (⟨Gr.alloc hHeld.1 _, ((Gr.refl _ none).alloc _).cell hHeld.2 (by simp)⟩) (fun hHeld => ?_)
      clear hK K
      try simp only [Act.put, List.getElem_toArray, List.getElem_cons_succ, List.getElem_cons_zero, List.setIfInBounds_toArray, List.set_cons_zero, List.set_cons_succ]
      refine wpAnyH_ready (rs := [5]) (by kernel_rfl) (by simp) ?_
      refine AllReadyH.cons rfl (fun K hK => ?_) AllReadyH.nil
      go_simp
      refine (num_any rb (P + 2) [5, 4, 7, 3, 8] 5 rfl _ _ _ (hRA.gr0 ((Gr.refl _ none).drew.alloc _)) (by omega) (inAt_lit _ rb (by simp; omega) _ _ rfl _) (by omega) (by omega)).mono ?_
      rintro e w5 ⟨v5, hm5, rfl, hg5, hr5⟩
      obtain ⟨k5, rfl⟩ : ∃ k5 : Nat, v5 = k5 := ⟨v5.toNat, by simp at hm5; omega⟩
      have hk5 : k5 ≤ 8 := by simp at hm5; omega
      try dsimp only
      refine hK.out _ _ (⟨Gr.trans hHeld.1 hg5 (fun r e => .inl e), Gr.cell hg5 hHeld.2 (by simp; omega)⟩) (fun hHeld => ?_)
      clear hK K
      try simp only [Act.put, List.getElem_toArray, List.getElem_cons_succ, List.getElem_cons_zero, List.setIfInBounds_toArray, List.set_cons_zero, List.set_cons_succ]
      refine wpAnyH_ready (rs := [6]) (by kernel_rfl) (by simp) ?_
      refine AllReadyH.cons rfl (fun K hK => ?_) AllReadyH.nil
      go_simp
      refine (some2 rb (P + 2 + 1) k5 _ w5 hr5 (by omega) hk5).mono ?_
      rintro e w6 ⟨L6, a6, c6, rfl, hl6, hg6, hr6, hc6⟩
      have HP6 := Lib.hid (((HPA.out.gr ((Gr.refl wA none).drew.alloc _) (by simp)).gr hg5 (by simp; omega)).gr hg6 (by simp; omega))
      try dsimp only
      refine hK.out _ _ (⟨Gr.trans hHeld.1 hg6 (fun r e => .inl e), Gr.cell hg6 hHeld.2 (by simp; omega)⟩) (fun hHeld => ?_)
      clear hK K
      try simp only [Act.put, List.getElem_toArray, List.getElem_cons_succ, List.getElem_cons_zero, List.setIfInBounds_toArray, List.set_cons_zero, List.set_cons_succ]
      refine wpAnyH_take (i := 7) (v := ?_) rfl (by kernel_rfl) (by kernel_rfl) (by kernel_rfl) (fun _ _ _ h => h) (Or.inl ⟨by rfl, ?_⟩) hHeld ?_
      rotate_left
      focus (intro wq hq; clear hq; go_simp; try with_reducible rfl)
      simp only [Act.put, List.getElem_toArray, List.getElem_cons_succ, List.getElem_cons_zero, List.setIfInBounds_toArray, List.set_cons_zero, List.set_cons_succ]
      refine wpAnyH_ready (rs := [8]) (by kernel_rfl) (by simp) ?_
      refine AllReadyH.cons rfl (fun K hK => ?_) AllReadyH.nil
      obtain ⟨s0, s1, sf⟩ := HP6.out
      go_simp
      try dsimp only
      refine hK.out _ _ (⟨hHeld.1.setNew (by show w4.heap.size ≤ w4.heap.size + 1; omega) _, by rw [World.cell?_setCell_other _ _ _ _ (by simp)]; exact hHeld.2⟩) (fun hHeld => ?_)
      clear hK K
      try simp only [Act.put, List.getElem_toArray, List.getElem_cons_succ, List.getElem_cons_zero, List.setIfInBounds_toArray, List.set_cons_zero, List.set_cons_succ]
      refine wpAnyH_done (by kernel_rfl) ?_ _
      have hW : Gr w6 (w6.setCell ⟨w4.heap.size + 1, 1, none⟩ (.slice a6 L6.length c6)) (some (w4.heap.size + 1)) := own_set _ _ _ _
      have hz6 := (((HZA.out.gr ((Gr.refl wA none).drew.alloc _) (by simp)).gr hg5 (by simp; omega)).gr hg6 (by simp; omega)).gr hW (by simp; omega)
      have hT6 : InAt w6 (New w4.heap.size) [1, 2, 2, 3, 4, 4] (some ⟨w4.heap.size, 0, none⟩) := InAt.gr hg6 (fun b _ hb e => by cases e; unfold New at hb; omega) (InAt.gr hg5 (fun b _ hb e => by cases e; unfold New at hb; omega) (HTA.out.gr0 ((Gr.refl wA none).drew.alloc _)))
      have hT7 : InAt (w6.setCell ⟨w4.heap.size + 1, 1, none⟩ (.slice a6 L6.length c6)) (fun b _ => b = w4.heap.size) [1, 2, 2, 3, 4, 4] (some ⟨w4.heap.size, 0, none⟩) :=
        InAt.gr hW (fun b _ hb e => by cases e; omega) (InAt.mono (fun b o hb => by simp [ob] at hb; exact hb.symm) (fun _ _ _ _ h => h) _ _ (InAt.block hT6))
      have hsz5 : wA.heap.size ≤ w5.heap.size := by have := hg5.size; simp at this; omega
      have hL7 : SlAt (w6.setCell ⟨w4.heap.size + 1, 1, none⟩ (.slice a6 L6.length c6)) (New w5.heap.size) L6 a6 := hl6.far hW (fun r e => by cases e; omega)
      have hr7 := (hr6.far hW (fun r e => by cases e; omega)).mono (show P + 2 + 1 + (1 + k5 * cOne 2) ≤ P + 400 by have : k5 * cOne 2 ≤ 8 * 43 := Nat.mul_le_mul hk5 (Nat.le_refl _); omega)
      have hg7 : Gr w (w6.setCell ⟨w4.heap.size + 1, 1, none⟩ (.slice a6 L6.length c6)) (some rb) := (((HGA.out.drew.alloc _).trans hg5 (fun r e => .inl e)).trans hg6 (fun r e => .inl e)).setNew (by show w.heap.size ≤ w4.heap.size + 1; omega) _
      have hc7 : St.count L6 ≤ 105 := by have : k5 * (1 + mOne 2) ≤ 8 * 13 := Nat.mul_le_mul hk5 (Nat.le_refl _); omega
      obtain ⟨s0, s1, sf⟩ := HP6.out
      have t0 : (w6.setCell ⟨w4.heap.size + 1, 1, none⟩ (.slice a6 L6.length c6)).cell? ⟨w4.heap.size + 1, 0, none⟩ = some (.slice (some ⟨w4.heap.size, 0, none⟩) 6 6) := by rw [World.cell?_setCell_other _ _ _ _ (by simp)]; exact s0
      have t1 : (w6.setCell ⟨w4.heap.size + 1, 1, none⟩ (.slice a6 L6.length c6)).cell? ⟨w4.heap.size + 1, 1, none⟩ = some (.slice a6 L6.length c6) := World.cell?_setCell_same _ _ _ s1
      have HZ7 := Lib.hid hz6
      have HT7 := Lib.hid hT7
      have HL7 := Lib.hid hL7
      have HR7 := Lib.hid hr7
      have HG7 := Lib.hid hg7
      have hsw : w5.heap.size ≤ w6.heap.size := hg6.size
      clear hW hT6 hT7 hL7 hr7 hg7 hl6 hg5 hg6 hr5 hr6 hRA s0 s1 sf hHeld hm5 hc6
      obtain ⟨W, hWW⟩ : ∃ W : World, W = w6.setCell ⟨w4.heap.size + 1, 1, none⟩ (.slice a6 L6.length c6) := ⟨_, rfl⟩
      rw [← hWW] at hz6 t0 t1 HZ7 HT7 HL7 HR7 HG7 ⊢
      clear hWW
      obtain ⟨z0, z1, zf⟩ := hz6
      go_wp2_with fail
      (try simp only [Exit.inBlock, Exit.then])
      refine draw_ret (b := w.heap.size) HZ7.out rfl ?_
      exact ⟨⟨[1, 2, 2, 3, 4, 4], L6⟩, _, a6, 6, c6, rfl, (InAt.gr (put2_own _ _ _ _) (fun b _ hb e => by cases e; omega) HT7.out).mono (fun b _ hb => by unfold New; omega) (fun _ _ _ _ h => h), HL7.out.put2 (by omega), by simp, by omega, HG7.out.trans (put2_own _ _ _ _) (fun r e => .inr (by cases e; exact Nat.le_refl _)), HR7.out.far (put2_own _ _ _ _) (fun r e => by cases e; exact hrb)⟩
end Go.Proofs.Ytlcnngmhkdhjjaa

/- Own copies of programs, as the program makes them. -/
import Derived.Test.YtdnhinkjmjpnnaaFG

import Derived.Test.YtdnhinkjmjpnnaaW2

namespace Go.Proofs.Ytdnhinkjmjpnnaa

open Go.RowKit

/-- A copied program, of the call's own. -/
def OwnPR (p : Pr) (w : World) (e : Ending) (w' : World) : Prop := ∃ (at' ab : Option Addr) (ct cb : Nat),
  e = .returned (.agg #[.slice at' p.types.length ct, .slice ab p.body.length cb]) ∧ InAt w' Any p.types at' ∧ p.types.length ≤ ct ∧ Gr w w' none ∧ ∃ mid, w.heap.size + 1 < mid ∧ Sts w' mid ab cb p.body ∧ ∀ g, ob at' = some g → w.heap.size + 1 < g ∧ g < mid
theorem own_ret {R : Ending → World → Prop} {tmps : Array Value} {u : World} {b : Nat} {x0 x1 : Value} (hz : Zp u b x0 x1) {v0 v1 : Value} (ht : tmps.getD 2 undef = .pointer (some ⟨b, 0, none⟩)) (h : R (.returned (.agg #[v0, v1])) (put2 u b v0 v1)) :
    bodyPost Try.prog Try.f115 R .normal { tmps := tmps, defers := [] } (put2 u b v0 v1) ∧ bodyPost Try.prog Try.f115 R .ret { tmps := tmps, defers := [] } (put2 u b v0 v1) := by
  obtain ⟨c0, c1⟩ := hz.put2 v0 v1
  generalize put2 u b v0 v1 = W at *
  have ht' : tmps[2]?.getD undef = .pointer (some ⟨b, 0, none⟩) := by simpa using ht
  constructor
  · refine bodyPost_end (v := .agg #[v0, v1]) ?_ rfl h
    simp [results, Try.results115, go_sem, ht', c0, c1]
  · refine bodyPost_ret (v := .agg #[v0, v1]) ?_ rfl h
    simp [results, Try.results115, go_sem, ht', c0, c1]
set_option maxRecDepth 100000 in
set_option maxHeartbeats 4000000 in
theorem own_any (p : Pr) (at' ab : Option Addr) (ct cb : Nat) (w : World) (hT : InAt w Any p.types at') (hB : SlAt w Any p.body ab) (hs : p.types.length ≤ 100000) (hc : St.count p.body ≤ 10000) :
    Calls Try.prog 115 #[.agg #[.slice at' p.types.length ct, .slice ab p.body.length cb]] w (OwnPR p w) := by
  go_enter Try.func115, Try.ntmps115
  go_upto_region 1 with fail
  obtain ⟨wA, hwA⟩ : ∃ wA : World, wA = (w.alloc (.cells #[.slice at' p.types.length ct, .slice ab p.body.length cb] 30)).alloc (.cells #[.slice none 0 0, .slice none 0 0] 30) := ⟨_, rfl⟩
  have hgA : Gr w wA none := by rw [hwA]; exact ((Gr.refl _ _).alloc _).alloc _
  have q0 : wA.cell? ⟨w.heap.size, 0, none⟩ = some (.slice at' p.types.length ct) := by rw [hwA]; exact cell_of_row _ _ _ _ _ _ (heap2_0 _ _ _)
  have q1 : wA.cell? ⟨w.heap.size, 1, none⟩ = some (.slice ab p.body.length cb) := by rw [hwA]; exact cell_of_row _ _ _ _ _ _ (heap2_0 _ _ _)
  have hPA : Zp wA (w.heap.size + 1) (.slice none 0 0) (.slice none 0 0) := by
    rw [hwA]; exact ⟨cell_of_row _ _ _ _ _ _ (heap2_1 _ _ _), cell_of_row _ _ _ _ _ _ (heap2_1 _ _ _), frz_new (heap2_1 _ _ _)⟩
  have hszA : w.heap.size + 1 < wA.heap.size := hPA.lt
  rw [← hwA]
  have HT := Lib.hid (hT.gr0 hgA)
  have HB := Lib.hid (hB.gr0 hgA)
  have HPA := Lib.hid hPA
  clear hwA hT hB hPA
  refine wp_region_held_drew (S := fun w' => Gr w w' none ∧ w'.cell? ⟨w.heap.size, 0, none⟩ = some (.slice at' p.types.length ct) ∧ w'.cell? ⟨w.heap.size, 1, none⟩ = some (.slice ab p.body.length cb)) (by kernel_rfl) (⟨hgA.drew, q0, q1⟩) (fun hHeld => ?_)
  refine wpAnyH_take (i := 0) (v := ?_) rfl (by kernel_rfl) (by kernel_rfl) (by kernel_rfl) (fun _ _ _ h => h) (Or.inl ⟨by rfl, ?_⟩) hHeld ?_
  rotate_left
  focus (intro wq hq; clear hq; go_simp; try with_reducible rfl)
  simp only [Act.put, List.getElem_toArray, List.getElem_cons_zero, List.setIfInBounds_toArray, List.set_cons_zero, List.set_cons_succ]
  refine wpAnyH_take (i := 1) (v := ?_) rfl (by kernel_rfl) (by kernel_rfl) (by kernel_rfl) (fun _ _ _ h => h) (Or.inl ⟨by rfl, ?_⟩) hHeld ?_
  rotate_left
  focus (intro wq hq; have k0 := hq.2.1; go_simp; try with_reducible rfl)
  simp only [Act.put, List.getElem_toArray, List.getElem_cons_succ, List.getElem_cons_zero, List.setIfInBounds_toArray, List.set_cons_zero, List.set_cons_succ]
  refine wpAnyH_take (i := 3) (v := ?_) rfl (by kernel_rfl) (by kernel_rfl) (by kernel_rfl) (fun _ _ _ h => h) (Or.inl ⟨by rfl, ?_⟩) hHeld ?_
  rotate_left
  focus (intro wq hq; clear hq; go_simp; try with_reducible rfl)
  simp only [Act.put, List.getElem_toArray, List.getElem_cons_succ, List.getElem_cons_zero, List.setIfInBounds_toArray, List.set_cons_zero, List.set_cons_succ]
  refine wpAnyH_take (i := 4) (v := ?_) rfl (by kernel_rfl) (by kernel_rfl) (by kernel_rfl) (fun _ _ _ h => h) (Or.inl ⟨by rfl, ?_⟩) hHeld ?_
  rotate_left
  focus (intro wq hq; have k1 := hq.2.2; go_simp; try with_reducible rfl)
  simp only [Act.put, List.getElem_toArray, List.getElem_cons_succ, List.getElem_cons_zero, List.setIfInBounds_toArray, List.set_cons_zero, List.set_cons_succ]
  refine wpAnyH_ready (rs := [2]) (by kernel_rfl) (by simp) ?_
  refine AllReadyH.cons rfl (fun K hK => ?_) AllReadyH.nil
  go_simp
  refine (clone_any p.types at' ct _ (HT.out.gr0 (Gr.refl wA none).drew) (by omega)).mono ?_
  rintro e w2 ⟨⟨ao', cap', rfl, hI2, hb2, hz2, hg2⟩, hcap2⟩
  have HC2 := Lib.hid (hcap2 _ _ _ rfl)
  clear hcap2
  try dsimp only
  refine hK.out _ _ (⟨Gr.trans0 hHeld.1 hg2, Gr.cell hg2 hHeld.2.1 (by simp), Gr.cell hg2 hHeld.2.2 (by simp)⟩) (fun hHeld => ?_)
  clear hK K
  try simp only [Act.put, List.getElem_toArray, List.getElem_cons_succ, List.getElem_cons_zero, List.setIfInBounds_toArray, List.set_cons_zero, List.set_cons_succ]
  refine wpAnyH_ready (rs := [5]) (by kernel_rfl) (by simp) ?_
  refine AllReadyH.cons rfl (fun K hK => ?_) AllReadyH.nil
  go_simp
  refine (own_all (St.count p.body) hc p.body ab cb _ (Nat.le_refl _) (HB.out.gr0 ((Gr.refl wA none).drew.trans0 hg2))).mono ?_
  rintro e w3 ⟨a3, c3, rfl, hS3, hg3⟩
  have HP3 := Lib.hid ((HPA.out.gr ((Gr.refl wA none).drew.trans0 hg2) (by simp)).gr hg3 (by simp))
  try dsimp only
  refine hK.out _ _ (⟨Gr.trans0 hHeld.1 hg3, Gr.cell hg3 hHeld.2.1 (by simp), Gr.cell hg3 hHeld.2.2 (by simp)⟩) (fun hHeld => ?_)
  clear hK K
  try simp only [Act.put, List.getElem_toArray, List.getElem_cons_succ, List.getElem_cons_zero, List.setIfInBounds_toArray, List.set_cons_zero, List.set_cons_succ]
  refine wpAnyH_take (i := 6) (v := ?_) rfl (by kernel_rfl) (by kernel_rfl) (by kernel_rfl) (fun _ _ _ h => h) (Or.inl ⟨by rfl, ?_⟩) hHeld ?_
  rotate_left
  focus (intro wq hq; clear hq; go_simp; try with_reducible rfl)
  simp only [Act.put, List.getElem_toArray, List.getElem_cons_succ, List.getElem_cons_zero, List.setIfInBounds_toArray, List.set_cons_zero, List.set_cons_succ]
  refine wpAnyH_ready (rs := [7]) (by kernel_rfl) (by simp) ?_
  refine AllReadyH.cons rfl (fun K hK => ?_) AllReadyH.nil
  obtain ⟨z0, z1, zf⟩ := HP3.out
  go_simp
  try dsimp only
  refine hK.out _ _ (⟨put2_gr hHeld.1 (by show w.heap.size ≤ w.heap.size + 1; omega), (put2_own _ _ _ _).cell hHeld.2.1 (by simp), (put2_own _ _ _ _).cell hHeld.2.2 (by simp)⟩) (fun hHeld => ?_)
  clear hK K
  try simp only [Act.put, List.getElem_toArray, List.getElem_cons_succ, List.getElem_cons_zero, List.setIfInBounds_toArray, List.set_cons_zero, List.set_cons_succ]
  refine wpAnyH_done (by kernel_rfl) ?_ _
  have hsz2 : wA.heap.size ≤ w2.heap.size := hg2.size
  have hsz3 := hg3.size
  have hp := put2_own w3 (w.heap.size + 1) (.slice ao' p.types.length cap') (.slice a3 p.body.length c3)
  have HR := Lib.hid (show OwnPR p w (.returned (.agg #[.slice ao' p.types.length cap', .slice a3 p.body.length c3])) (put2 w3 (w.heap.size + 1) (.slice ao' p.types.length cap') (.slice a3 p.body.length c3)) from
    ⟨ao', a3, cap', c3, rfl, (InAt.gr hp (fun b _ hd e => by cases e; have := (hb2 _ hd).1; simp at this; omega) (hI2.block.gr0 hg3)).any, HC2.out, hHeld.1, w2.heap.size, by omega, hS3.gr hp (fun r e => by cases e; omega), fun g hg => by have := hb2 g hg; simp at this; omega⟩)
  clear hI2 hb2 hz2 hS3
  go_wp2_with fail
  exact (own_ret (b := w.heap.size + 1) HP3.out rfl HR.out).2
end Go.Proofs.Ytdnhinkjmjpnnaa

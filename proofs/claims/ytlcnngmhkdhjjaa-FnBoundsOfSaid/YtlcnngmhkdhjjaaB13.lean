/- The walk of a program's copy: the same program, in new memory of the call's own. -/
import Derived.Test.YtlcnngmhkdhjjaaB12

namespace Go.Proofs.Ytlcnngmhkdhjjaa

open Go.RowKit

/-- A builtin append as one step of a region that draws its order. -/
theorem step_run {ops : Array Oper} {o : Oper} {a : Act} {K : Act → World → Prop} {Q : Exit → Act → World → Prop} {E : Prop} {W : World} (hgd : o.guard = none) (x y : Operand) (t : TypeId)
    (ho : o.op = .call { callee := .builtin .append, args := #[x, y], argTypes := #[t, t] }) (vx vy : Value) (hx : a.eval x = vx) (hy : a.eval y = vy) (v : Value) (w' : World)
    (hrun : (Builtin.append_ #[t, t] o.type #[vx, vy]).run Try.prog W = .ok v w') (h : K (a.put o.dst v) w') : if Region.wanted o (yielded ops a.tmps) = true then Oper.wp Try.prog o a W K Q else E := by
  have hw : Region.wanted o (yielded ops a.tmps) = true := by simp [Region.wanted, hgd]
  rw [if_pos hw]
  unfold Oper.wp
  simp [execOp, ho, resolve, invoke, builtin, hx, hy, hrun, Result.andThen]
  exact h
/-- A copied program, of the call's own. -/
def CopyPR (p : Pr) (w : World) (e : Ending) (w' : World) : Prop := ∃ (at' ab : Option Addr) (ct cb : Nat),
  e = .returned (.agg #[.slice at' p.types.length ct, .slice ab p.body.length cb]) ∧ Lst w' w.heap.size w.heap.size p.types at' p.types.length ct ∧ Gr w w' none ∧ ∃ mid, w.heap.size ≤ mid ∧ Sts w' mid ab cb p.body ∧ ∀ g, ob at' = some g → g < mid
theorem copy_ret {R : Ending → World → Prop} {tmps : Array Value} {u : World} {b : Nat} {x0 x1 : Value} (hz : Zp u b x0 x1) {v0 v1 : Value} (ht : tmps.getD 2 undef = .pointer (some ⟨b, 0, none⟩)) (h : R (.returned (.agg #[v0, v1])) (put2 u b v0 v1)) :
    bodyPost Try.prog Try.f114 R .normal { tmps := tmps, defers := [] } (put2 u b v0 v1) ∧ bodyPost Try.prog Try.f114 R .ret { tmps := tmps, defers := [] } (put2 u b v0 v1) := by
  obtain ⟨c0, c1⟩ := hz.put2 v0 v1
  generalize put2 u b v0 v1 = W at *
  have ht' : tmps[2]?.getD undef = .pointer (some ⟨b, 0, none⟩) := by simpa using ht
  constructor
  · refine bodyPost_end (v := .agg #[v0, v1]) ?_ rfl h
    simp [results, Try.results114, go_sem, ht', c0, c1]
  · refine bodyPost_ret (v := .agg #[v0, v1]) ?_ rfl h
    simp [results, Try.results114, go_sem, ht', c0, c1]
set_option maxRecDepth 100000 in
set_option maxHeartbeats 8000000 in
theorem copyOf_any (p : Pr) (at' ab : Option Addr) (ct cb : Nat) (w : World) (hT : InAt w Any p.types at') (hB : SlAt w Any p.body ab) (hs : p.types.length ≤ 100000) (hc : St.count p.body ≤ 10000) :
    Calls Try.prog 114 #[.agg #[.slice at' p.types.length ct, .slice ab p.body.length cb]] w (CopyPR p w) := by
  go_enter Try.func114, Try.ntmps114
  go_upto_region 1 with fail
  obtain ⟨wA, hwA⟩ : ∃ wA : World, wA = (w.alloc (.cells #[.slice at' p.types.length ct, .slice ab p.body.length cb] 26)).alloc (.cells #[.slice none 0 0, .slice none 0 0] 26) := ⟨_, rfl⟩
  have hgA : Gr w wA none := by rw [hwA]; exact ((Gr.refl _ _).alloc _).alloc _
  have q0 : wA.cell? ⟨w.heap.size, 0, none⟩ = some (.slice at' p.types.length ct) := by rw [hwA]; exact cell_of_row _ _ _ _ _ _ (heap2_0 _ _ _)
  have q1 : wA.cell? ⟨w.heap.size, 1, none⟩ = some (.slice ab p.body.length cb) := by rw [hwA]; exact cell_of_row _ _ _ _ _ _ (heap2_0 _ _ _)
  have hPA : Zp wA (w.heap.size + 1) (.slice none 0 0) (.slice none 0 0) := by
    rw [hwA]; exact ⟨cell_of_row _ _ _ _ _ _ (heap2_1 _ _ _), cell_of_row _ _ _ _ _ _ (heap2_1 _ _ _), frz_new (heap2_1 _ _ _)⟩
  have hszA : w.heap.size + 1 < wA.heap.size := hPA.lt
  rw [← hwA]
  have HT := Lib.hid (hT.gr0 hgA)
  have HB := Lib.hid (hB.gr0 hgA)
  have HPA := Lib.hid hPA
  clear hwA hT hB hPA
  refine wp_region_held_drew (S := fun w' => Gr w w' none ∧ w'.cell? ⟨w.heap.size, 0, none⟩ = some (.slice at' p.types.length ct) ∧ w'.cell? ⟨w.heap.size, 1, none⟩ = some (.slice ab p.body.length cb)) (by kernel_rfl) (⟨hgA.drew, q0, q1⟩) (fun hHeld => ?_)
  refine wpAnyH_take (i := 1) (v := ?_) rfl (by kernel_rfl) (by kernel_rfl) (by kernel_rfl) (fun _ _ _ h => h) (Or.inl ⟨by rfl, ?_⟩) hHeld ?_
  rotate_left
  focus (intro wq hq; clear hq; go_simp; try with_reducible rfl)
  simp only [Act.put, List.getElem_toArray, List.getElem_cons_succ, List.getElem_cons_zero, List.setIfInBounds_toArray, List.set_cons_zero, List.set_cons_succ]
  refine wpAnyH_take (i := 2) (v := ?_) rfl (by kernel_rfl) (by kernel_rfl) (by kernel_rfl) (fun _ _ _ h => h) (Or.inl ⟨by rfl, ?_⟩) hHeld ?_
  rotate_left
  focus (intro wq hq; have k0 := hq.2.1; go_simp; try with_reducible rfl)
  simp only [Act.put, List.getElem_toArray, List.getElem_cons_succ, List.getElem_cons_zero, List.setIfInBounds_toArray, List.set_cons_zero, List.set_cons_succ]
  refine wpAnyH_take (i := 4) (v := ?_) rfl (by kernel_rfl) (by kernel_rfl) (by kernel_rfl) (fun _ _ _ h => h) (Or.inl ⟨by rfl, ?_⟩) hHeld ?_
  rotate_left
  focus (intro wq hq; clear hq; go_simp; try with_reducible rfl)
  simp only [Act.put, List.getElem_toArray, List.getElem_cons_succ, List.getElem_cons_zero, List.setIfInBounds_toArray, List.set_cons_zero, List.set_cons_succ]
  refine wpAnyH_take (i := 5) (v := ?_) rfl (by kernel_rfl) (by kernel_rfl) (by kernel_rfl) (fun _ _ _ h => h) (Or.inl ⟨by rfl, ?_⟩) hHeld ?_
  rotate_left
  focus (intro wq hq; have k1 := hq.2.2; go_simp; try with_reducible rfl)
  simp only [Act.put, List.getElem_toArray, List.getElem_cons_succ, List.getElem_cons_zero, List.setIfInBounds_toArray, List.set_cons_zero, List.set_cons_succ]
  refine wpAnyH_ready (rs := [0]) (by kernel_rfl) (by simp) ?_
  refine AllReadyH.cons rfl (fun K hK => ?_) AllReadyH.nil
  go_simp
  try dsimp only
  refine hK.out _ _ (⟨Gr.alloc hHeld.1 _, ((Gr.refl _ none).alloc _).cell hHeld.2.1 (by simp), ((Gr.refl _ none).alloc _).cell hHeld.2.2 (by simp)⟩) (fun hHeld => ?_)
  clear hK K
  try simp only [Act.put, List.getElem_toArray, List.getElem_cons_succ, List.getElem_cons_zero, List.setIfInBounds_toArray, List.set_cons_zero, List.set_cons_succ]
  refine wpAnyH_ready (rs := [3]) (by kernel_rfl) (by simp) ?_
  refine AllReadyH.cons rfl (fun K hK => ?_) AllReadyH.nil
  obtain ⟨ao', cap', w2, hrun, hL2, hg2⟩ := run_copy_ints (wA.drew.alloc (.cells #[] 3)) 23 wA.heap.size wA.heap.size wA.heap.size (Nat.le_refl _) (by simp) (Nat.le_refl _) (heap1_0 _ _) at' ct p.types (HT.out.gr0 ((Gr.refl _ none).drew.alloc _)) (by omega)
  refine step_run rfl (.tmp 3) (.tmp 5) 23 rfl _ _ rfl rfl _ _ hrun ?_
  try dsimp only
  refine hK.out _ _ (⟨Gr.trans0 hHeld.1 hg2, Gr.cell hg2 hHeld.2.1 (by simp), Gr.cell hg2 hHeld.2.2 (by simp)⟩) (fun hHeld => ?_)
  clear hK K
  try simp only [Act.put, List.getElem_toArray, List.getElem_cons_succ, List.getElem_cons_zero, List.setIfInBounds_toArray, List.set_cons_zero, List.set_cons_succ]
  refine wpAnyH_ready (rs := [6]) (by kernel_rfl) (by simp) ?_
  refine AllReadyH.cons rfl (fun K hK => ?_) AllReadyH.nil
  go_simp
  refine (copy_all (St.count p.body) hc p.body ab cb _ (Nat.le_refl _) (HB.out.gr0 (((Gr.refl wA none).drew.alloc _).trans0 hg2))).mono ?_
  rintro e w3 ⟨a3, c3, rfl, hS3, hg3⟩
  have HP3 := Lib.hid ((HPA.out.gr (((Gr.refl wA none).drew.alloc _).trans0 hg2) (by simp)).gr hg3 (by simp))
  clear hrun
  try dsimp only
  refine hK.out _ _ (⟨Gr.trans0 hHeld.1 hg3, Gr.cell hg3 hHeld.2.1 (by simp), Gr.cell hg3 hHeld.2.2 (by simp)⟩) (fun hHeld => ?_)
  clear hK K
  try simp only [Act.put, List.getElem_toArray, List.getElem_cons_succ, List.getElem_cons_zero, List.setIfInBounds_toArray, List.set_cons_zero, List.set_cons_succ]
  refine wpAnyH_take (i := 7) (v := ?_) rfl (by kernel_rfl) (by kernel_rfl) (by kernel_rfl) (fun _ _ _ h => h) (Or.inl ⟨by rfl, ?_⟩) hHeld ?_
  rotate_left
  focus (intro wq hq; clear hq; go_simp; try with_reducible rfl)
  simp only [Act.put, List.getElem_toArray, List.getElem_cons_succ, List.getElem_cons_zero, List.setIfInBounds_toArray, List.set_cons_zero, List.set_cons_succ]
  refine wpAnyH_ready (rs := [8]) (by kernel_rfl) (by simp) ?_
  refine AllReadyH.cons rfl (fun K hK => ?_) AllReadyH.nil
  obtain ⟨z0, z1, zf⟩ := HP3.out
  go_simp
  try dsimp only
  refine hK.out _ _ (⟨put2_gr hHeld.1 (by show w.heap.size ≤ w.heap.size + 1; omega), (put2_own _ _ _ _).cell hHeld.2.1 (by simp), (put2_own _ _ _ _).cell hHeld.2.2 (by simp)⟩) (fun hHeld => ?_)
  clear hK K
  try simp only [Act.put, List.getElem_toArray, List.getElem_cons_succ, List.getElem_cons_zero, List.setIfInBounds_toArray, List.set_cons_zero, List.set_cons_succ]
  refine wpAnyH_done (by kernel_rfl) ?_ _
  have hsz2 : wA.heap.size ≤ w2.heap.size := by have := hg2.size; simp at this; omega
  have HDJ := Lib.hid (show ∀ g : Nat, ob ao' = some g → g < w2.heap.size from fun g h1 => (hL2.own g h1).2)
  have hL3 := (hL2.gr hg3).far (put2_own w3 (w.heap.size + 1) (.slice ao' p.types.length cap') (.slice a3 p.body.length c3)) (fun r e => by cases e; omega)
  have hS4 := hS3.gr (put2_own w3 (w.heap.size + 1) (.slice ao' p.types.length cap') (.slice a3 p.body.length c3)) (fun r e => by cases e; omega)
  have HR := Lib.hid (show CopyPR p w (.returned (.agg #[.slice ao' p.types.length cap', .slice a3 p.body.length c3])) (put2 w3 (w.heap.size + 1) (.slice ao' p.types.length cap') (.slice a3 p.body.length c3)) from
    ⟨ao', a3, cap', c3, rfl, ⟨hL3.1, Nat.le_refl _, hL3.2.2.elim (fun ⟨h1, h2, h3⟩ => .inl ⟨h1, h2, fun g hg => ⟨by have := (h3 g hg).1; omega, (h3 g hg).2⟩⟩) (fun h4 => .inr (own_mono h4 (by omega)))⟩, hHeld.1, w2.heap.size, by omega, hS4, HDJ.out⟩)
  clear hL3 hS4 hL2 hS3
  go_wp2_with fail
  exact (copy_ret (b := w.heap.size + 1) HP3.out rfl HR.out).2
end Go.Proofs.Ytlcnngmhkdhjjaa

/- Walks of drawn arguments, weakly: uses; mutated programs alone. -/
import Derived.Test.YtpnaeijkllmihaaB16

namespace Go.Proofs.Ytpnaeijkllmihaa

open Go.RowKit

theorem useOfD_ret {R : Ending → World → Prop} {tmps : Array Value} {u : World} {b : Nat} {x0 x1 : Value} (hz : Zp u b x0 x1) {v0 v1 v3 v4 : Value} (ht : tmps.getD 2 undef = .pointer (some ⟨b, 0, none⟩)) (h3 : tmps.getD 3 undef = v3) (h4 : tmps.getD 4 undef = v4) (h : R (.returned (.tuple #[.agg #[v0, v1], v3, v4])) (put2 u b v0 v1)) :
    bodyPost Try.prog Try.f25 R .ret { tmps := tmps, defers := [] } (put2 u b v0 v1) := by
  obtain ⟨c0, c1⟩ := hz.put2 v0 v1
  generalize put2 u b v0 v1 = W at *
  have ht' : tmps[2]?.getD undef = .pointer (some ⟨b, 0, none⟩) := by simpa using ht
  have h3' : tmps[3]?.getD undef = v3 := by simpa using h3
  have h4' : tmps[4]?.getD undef = v4 := by simpa using h4
  refine bodyPost_ret (v := .tuple #[.agg #[v0, v1], v3, v4]) ?_ rfl h
  simp [results, Try.results25, go_sem, ht', h3', h4', c0, c1]
set_option maxRecDepth 100000 in
set_option maxHeartbeats 8000000 in
theorem useOfD_any (a : Option Addr) (n c : Nat) (w : World) (h : BytesIn w a n) (hc : n ≤ c) (hn : n ≤ 100000000) : Calls Try.prog 25 #[.slice a n c] w (Drawn2 w) := by
  have hZ := Zp.new w (.slice none 0 0) (.slice none 0 0) 26
  have hA : Gr w (w.alloc (.cells #[.slice none 0 0, .slice none 0 0] 26)) none := (Gr.refl _ _).alloc _
  have hBy := h.gr0 hA
  go_enter Try.func25, Try.ntmps25
  go_wp2_with fail
  refine (open_any a n c _ hBy hc hn).mono ?_
  rintro e w1 ⟨rb, rfl, hR1, hrb, hg1⟩
  have hwr : w.heap.size < rb := by simp at hrb; omega
  have hZ1 := hZ.gr hg1 (by simp)
  have hG1 := hA.trans0 hg1
  have hlt1 := hR1.lt
  clear hZ hA hBy h hg1 hrb
  go_wp2_with fail
  refine (l1Draw_any rb 0 w1 hR1 (by omega)).mono ?_
  rintro e w2 ⟨p1, a1, b1, c1, d1, rfl, hT1, hB1, ht1, hc1, hg2, hr2⟩
  have hs2 : w1.heap.size ≤ w2.heap.size := hg2.size
  have hZ2 := hZ1.gr hg2 (by simp; omega)
  have hG2 := hG1.trans hg2 (fun r e => .inr (by cases e; omega))
  clear hZ1 hG1 hg2 hR1
  go_wp2_with fail
  refine (l1Mutate_any rb (0 + 400) p1 a1 b1 c1 d1 w2 hr2 (by omega) (hT1.mono (fun _ _ _ => trivial) (fun _ _ _ _ h => h)) (hB1.sub fun _ _ _ => trivial) ht1 hc1).mono ?_
  rintro e w3 ⟨p, at', ab, ct, cb, rfl, hT2, hB2, ht2, hc2, hg3, hr3⟩
  have hlb := count_length p.body
  have hs3 : w2.heap.size ≤ w3.heap.size := hg3.size
  have hlt3 := hr3.lt
  have hZ3 := hZ2.gr hg3 (by simp; omega)
  have hG3 := hG2.trans hg3 (fun r e => .inr (by cases e; omega))
  clear hZ2 hG2 hg3 hr2 hT1 hB1
  have hrb9 : rb ≠ w3.heap.size := by omega
  have hgA : Gr w3 (w3.alloc (.cells #[.slice at' p.types.length ct, .slice ab p.body.length cb] 26)) none := (Gr.refl _ _).alloc _
  have hS0 : DrS w (w3.alloc (.cells #[.slice at' p.types.length ct, .slice ab p.body.length cb] 26)) rb 403 w3.heap.size p at' ab ct cb :=
    ⟨hG3.trans0 hgA, hZ3.gr hgA (by simp), Zp.new _ _ _ _, (hT2.mono (fun k _ hk => by unfold New at hk; exact ⟨by omega, by omega⟩) (fun _ _ _ _ h => h)).gr0 hgA, (hB2.sub (fun k _ hk => by unfold New at hk; exact ⟨by omega, by omega⟩)).gr0 hgA, hr3.gr0 hgA⟩
  clear hZ3 hG3 hT2 hB2 hr3
  go_wp2_with fail
  obtain ⟨wA, hwA⟩ : ∃ wA : World, wA = w3.alloc (.cells #[.slice at' p.types.length ct, .slice ab p.body.length cb] 26) := ⟨_, rfl⟩
  rw [← hwA] at hS0 hgA ⊢
  have hAs : wA.heap.size = w3.heap.size + 1 := by rw [hwA]; simp
  clear hwA hgA
  have HS0 := Lib.hid hS0
  clear hS0
  have hIL : InAt (wA.alloc (.cells #[.int .i64 1, .int .i64 0, .int .i64 2, .int .i64 3, .int .i64 4, .int .i64 5, .int .i64 (-1), .int .i64 60] 3)) (fun b _ => b ≠ rb) [1, 0, 2, 3, 4, 5, -1, 60] (some ⟨w3.heap.size + 1, 0, none⟩) := by rw [← hAs]; exact inAt_lit wA rb (by omega) [1, 0, 2, 3, 4, 5, -1, 60] _ rfl _
  refine (num_any rb 403 [1, 0, 2, 3, 4, 5, -1, 60] 8 rfl _ _ _ (HS0.out.2.2.2.2.2.gr0 ((Gr.refl _ none).alloc _)) (by omega) hIL (by omega) (by omega)).mono ?_
  rintro e w5 ⟨k1, hm5, rfl, hg5, hr5⟩
  have HS := Lib.hid ((HS0.out.gr0 ((Gr.refl _ none).alloc _)).far hg5 hr5 hwr hrb9)
  have hk : -1000000 ≤ k1 ∧ k1 ≤ 1000000 := by simp at hm5; omega
  have hsz5 : w3.heap.size < w5.heap.size := HS.out.2.2.1.lt
  have hlt5 := hr5.lt
  clear HS0 hg5 hr5 hm5 hIL
  go_upto_region 4 with fail
  refine wp_region_held_drew (S := fun w' => Gr w w' none ∧ w'.cell? ⟨w3.heap.size, 0, none⟩ = some (.slice at' p.types.length ct) ∧ w'.cell? ⟨w3.heap.size, 1, none⟩ = some (.slice ab p.body.length cb)) (by kernel_rfl) (⟨HS.out.1.drew, HS.out.2.2.1.1, HS.out.2.2.1.2.1⟩) (fun hHeld => ?_)
  refine wpAnyH_take (i := 0) (v := ?_) rfl (by kernel_rfl) (by kernel_rfl) (by kernel_rfl) (fun _ _ _ h => h) (Or.inl ⟨by rfl, ?_⟩) hHeld ?_
  rotate_left
  focus (intro wq hq; obtain ⟨_, k0, k1⟩ := hq; go_simp; try with_reducible rfl)
  simp only [Act.put, List.getElem_toArray, List.getElem_cons_zero, List.setIfInBounds_toArray, List.set_cons_zero, List.set_cons_succ]
  refine wpAnyH_take (i := 1) (v := ?_) rfl (by kernel_rfl) (by kernel_rfl) (by kernel_rfl) (fun _ _ _ h => h) (Or.inl ⟨by rfl, ?_⟩) hHeld ?_
  rotate_left
  focus (intro wq hq; clear hq; go_simp; try with_reducible rfl)
  simp only [Act.put, List.getElem_toArray, List.getElem_cons_succ, List.getElem_cons_zero, List.setIfInBounds_toArray, List.set_cons_zero, List.set_cons_succ]
  refine wpAnyH_take (i := 2) (v := ?_) rfl (by kernel_rfl) (by kernel_rfl) (by kernel_rfl) (fun _ _ _ h => h) (Or.inl ⟨by rfl, ?_⟩) hHeld ?_
  rotate_left
  focus (intro wq hq; clear hq; go_simp; try with_reducible rfl)
  simp only [Act.put, List.getElem_toArray, List.getElem_cons_succ, List.getElem_cons_zero, List.setIfInBounds_toArray, List.set_cons_zero, List.set_cons_succ]
  refine wpAnyH_ready (rs := [3]) (by kernel_rfl) (by simp) ?_
  refine AllReadyH.cons rfl (fun K hK => ?_) AllReadyH.nil
  go_simp
  try dsimp only
  refine hK.out _ _ (⟨Gr.alloc hHeld.1 _, ((Gr.refl _ none).alloc _).cell hHeld.2.1 (by simp), ((Gr.refl _ none).alloc _).cell hHeld.2.2 (by simp)⟩) (fun hHeld => ?_)
  clear hK K
  try simp only [Act.put, List.getElem_toArray, List.getElem_cons_succ, List.getElem_cons_zero, List.setIfInBounds_toArray, List.set_cons_zero, List.set_cons_succ]
  refine wpAnyH_ready (rs := [4]) (by kernel_rfl) (by simp) ?_
  refine AllReadyH.cons rfl (fun K hK => ?_) AllReadyH.nil
  go_simp
  refine (num_any rb (403 + 1) [1, 2, 0, 3, -1, 9] 6 rfl _ _ _ (HS.out.2.2.2.2.2.gr0 ((Gr.refl _ none).drew.alloc _)) (by omega) (inAt_lit _ rb (by simp; omega) _ _ rfl _) (by omega) (by omega)).mono ?_
  rintro e w9 ⟨v9, hm9, rfl, hg9, hr9⟩
  have HS9 := Lib.hid ((HS.out.gr0 ((Gr.refl _ none).drew.alloc _)).far hg9 hr9 hwr hrb9)
  try dsimp only
  refine hK.out _ _ (⟨Gr.trans hHeld.1 hg9 (fun r e => .inr (by cases e; omega)), Gr.cell hg9 hHeld.2.1 (by simp; omega), Gr.cell hg9 hHeld.2.2 (by simp; omega)⟩) (fun hHeld => ?_)
  clear hK K
  try simp only [Act.put, List.getElem_toArray, List.getElem_cons_succ, List.getElem_cons_zero, List.setIfInBounds_toArray, List.set_cons_zero, List.set_cons_succ]
  refine wpAnyH_ready (rs := [5]) (by kernel_rfl) (by simp) ?_
  refine AllReadyH.cons rfl (fun K hK => ?_) AllReadyH.nil
  obtain ⟨z0, z1, zf⟩ := HS9.out.2.1
  go_simp
  try dsimp only
  refine hK.out _ _ (⟨put2_gr hHeld.1 (Nat.le_refl _), by rw [World.cell?_setCell_other _ _ _ _ (by simp <;> omega), World.cell?_setCell_other _ _ _ _ (by simp <;> omega)]; exact hHeld.2.1, by rw [World.cell?_setCell_other _ _ _ _ (by simp <;> omega), World.cell?_setCell_other _ _ _ _ (by simp <;> omega)]; exact hHeld.2.2⟩) (fun hHeld => ?_)
  clear hK K
  try simp only [Act.put, List.getElem_toArray, List.getElem_cons_succ, List.getElem_cons_zero, List.setIfInBounds_toArray, List.set_cons_zero, List.set_cons_succ]
  refine wpAnyH_take (i := 6) (v := ?_) rfl (by kernel_rfl) (by kernel_rfl) (by kernel_rfl) (fun _ _ _ h => h) (Or.inl ⟨by rfl, ?_⟩) hHeld ?_
  rotate_left
  focus (intro wq hq; clear hq; go_simp; try with_reducible rfl)
  simp only [Act.put, List.getElem_toArray, List.getElem_cons_succ, List.getElem_cons_zero, List.setIfInBounds_toArray, List.set_cons_zero, List.set_cons_succ]
  refine wpAnyH_take (i := 7) (v := ?_) rfl (by kernel_rfl) (by kernel_rfl) (by kernel_rfl) (fun _ _ _ h => h) (Or.inl ⟨by rfl, ?_⟩) hHeld ?_
  rotate_left
  focus (intro wq hq; clear hq; go_simp; try with_reducible rfl)
  simp only [Act.put, List.getElem_toArray, List.getElem_cons_succ, List.getElem_cons_zero, List.setIfInBounds_toArray, List.set_cons_zero, List.set_cons_succ]
  refine wpAnyH_done (by kernel_rfl) ?_ _
  have hv9 : -1000000 ≤ v9 ∧ v9 ≤ 1000000 := by simp at hm9; omega
  obtain ⟨z0, z1, zf⟩ := HS9.out.2.1
  have HH := Lib.hid hHeld
  clear hHeld
  go_wp2_with fail
  (try simp only [Exit.inBlock, Exit.then])
  refine useOfD_ret (b := w.heap.size) HS9.out.2.1 rfl rfl rfl ?_
  exact ⟨p, _, _, k1, v9, rfl, HS9.out.put ht2 hc2, hk.1, hk.2, hv9.1, hv9.2, HH.out.1⟩
theorem validD_ret {R : Ending → World → Prop} {tmps : Array Value} {u : World} {b : Nat} {x0 x1 : Value} (hz : Zp u b x0 x1) {v0 v1 : Value} (ht : tmps.getD 2 undef = .pointer (some ⟨b, 0, none⟩)) (h : R (.returned (.agg #[v0, v1])) (put2 u b v0 v1)) :
    bodyPost Try.prog Try.f85 R .ret { tmps := tmps, defers := [] } (put2 u b v0 v1) := by
  obtain ⟨c0, c1⟩ := hz.put2 v0 v1
  generalize put2 u b v0 v1 = W at *
  have ht' : tmps[2]?.getD undef = .pointer (some ⟨b, 0, none⟩) := by simpa using ht
  refine bodyPost_ret (v := .agg #[v0, v1]) ?_ rfl h
  simp [results, Try.results85, go_sem, ht', c0, c1]
set_option maxRecDepth 100000 in
set_option maxHeartbeats 8000000 in
theorem validD_any (a : Option Addr) (n c : Nat) (w : World) (h : BytesIn w a n) (hc : n ≤ c) (hn : n ≤ 100000000) : Calls Try.prog 85 #[.slice a n c] w (Drawn0 w) := by
  have hZ := Zp.new w (.slice none 0 0) (.slice none 0 0) 26
  have hA : Gr w (w.alloc (.cells #[.slice none 0 0, .slice none 0 0] 26)) none := (Gr.refl _ _).alloc _
  have hBy := h.gr0 hA
  go_enter Try.func85, Try.ntmps85
  go_wp2_with fail
  refine (open_any a n c _ hBy hc hn).mono ?_
  rintro e w1 ⟨rb, rfl, hR1, hrb, hg1⟩
  have hwr : w.heap.size < rb := by simp at hrb; omega
  have hZ1 := hZ.gr hg1 (by simp)
  have hG1 := hA.trans0 hg1
  have hlt1 := hR1.lt
  clear hZ hA hBy h hg1 hrb
  go_wp2_with fail
  refine (l1Draw_any rb 0 w1 hR1 (by omega)).mono ?_
  rintro e w2 ⟨p1, a1, b1, c1, d1, rfl, hT1, hB1, ht1, hc1, hg2, hr2⟩
  have hs2 : w1.heap.size ≤ w2.heap.size := hg2.size
  have hZ2 := hZ1.gr hg2 (by simp; omega)
  have hG2 := hG1.trans hg2 (fun r e => .inr (by cases e; omega))
  clear hZ1 hG1 hg2 hR1
  go_wp2_with fail
  refine (l1Mutate_any rb (0 + 400) p1 a1 b1 c1 d1 w2 hr2 (by omega) (hT1.mono (fun _ _ _ => trivial) (fun _ _ _ _ h => h)) (hB1.sub fun _ _ _ => trivial) ht1 hc1).mono ?_
  rintro e w3 ⟨p, at', ab, ct, cb, rfl, hT2, hB2, ht2, hc2, hg3, hr3⟩
  have hlb := count_length p.body
  have hs3 : w2.heap.size ≤ w3.heap.size := hg3.size
  have hlt3 := hr3.lt
  have hZ3 := hZ2.gr hg3 (by simp; omega)
  have hG3 := hG2.trans hg3 (fun r e => .inr (by cases e; omega))
  clear hZ2 hG2 hg3 hr2 hT1 hB1
  have HZ := Lib.hid hZ3
  have HG := Lib.hid hG3
  have HT := Lib.hid hT2
  have HB := Lib.hid hB2
  clear hZ3 hG3 hT2 hB2 hr3
  obtain ⟨z0, z1, zf⟩ := HZ.out
  go_wp2_with fail
  (try simp only [Exit.inBlock, Exit.then])
  refine validD_ret (b := w.heap.size) HZ.out rfl ?_
  exact ⟨p, _, _, rfl, PrAt.put (Nat.le_refl _) (by omega) HT.out HB.out ht2 hc2 rfl rfl, put2_gr HG.out (Nat.le_refl _)⟩
theorem checkD_ret {R : Ending → World → Prop} {tmps : Array Value} {u : World} {b : Nat} {x0 x1 : Value} (hz : Zp u b x0 x1) {v0 v1 : Value} (ht : tmps.getD 2 undef = .pointer (some ⟨b, 0, none⟩)) (h : R (.returned (.agg #[v0, v1])) (put2 u b v0 v1)) :
    bodyPost Try.prog Try.f54 R .ret { tmps := tmps, defers := [] } (put2 u b v0 v1) := by
  obtain ⟨c0, c1⟩ := hz.put2 v0 v1
  generalize put2 u b v0 v1 = W at *
  have ht' : tmps[2]?.getD undef = .pointer (some ⟨b, 0, none⟩) := by simpa using ht
  refine bodyPost_ret (v := .agg #[v0, v1]) ?_ rfl h
  simp [results, Try.results54, go_sem, ht', c0, c1]
set_option maxRecDepth 100000 in
set_option maxHeartbeats 8000000 in
theorem checkD_any (a : Option Addr) (n c : Nat) (w : World) (h : BytesIn w a n) (hc : n ≤ c) (hn : n ≤ 100000000) : Calls Try.prog 54 #[.slice a n c] w (Drawn0 w) := by
  have hZ := Zp.new w (.slice none 0 0) (.slice none 0 0) 26
  have hA : Gr w (w.alloc (.cells #[.slice none 0 0, .slice none 0 0] 26)) none := (Gr.refl _ _).alloc _
  have hBy := h.gr0 hA
  go_enter Try.func54, Try.ntmps54
  go_wp2_with fail
  refine (open_any a n c _ hBy hc hn).mono ?_
  rintro e w1 ⟨rb, rfl, hR1, hrb, hg1⟩
  have hwr : w.heap.size < rb := by simp at hrb; omega
  have hZ1 := hZ.gr hg1 (by simp)
  have hG1 := hA.trans0 hg1
  have hlt1 := hR1.lt
  clear hZ hA hBy h hg1 hrb
  go_wp2_with fail
  refine (l1Draw_any rb 0 w1 hR1 (by omega)).mono ?_
  rintro e w2 ⟨p1, a1, b1, c1, d1, rfl, hT1, hB1, ht1, hc1, hg2, hr2⟩
  have hs2 : w1.heap.size ≤ w2.heap.size := hg2.size
  have hZ2 := hZ1.gr hg2 (by simp; omega)
  have hG2 := hG1.trans hg2 (fun r e => .inr (by cases e; omega))
  clear hZ1 hG1 hg2 hR1
  go_wp2_with fail
  refine (l1Mutate_any rb (0 + 400) p1 a1 b1 c1 d1 w2 hr2 (by omega) (hT1.mono (fun _ _ _ => trivial) (fun _ _ _ _ h => h)) (hB1.sub fun _ _ _ => trivial) ht1 hc1).mono ?_
  rintro e w3 ⟨p, at', ab, ct, cb, rfl, hT2, hB2, ht2, hc2, hg3, hr3⟩
  have hlb := count_length p.body
  have hs3 : w2.heap.size ≤ w3.heap.size := hg3.size
  have hlt3 := hr3.lt
  have hZ3 := hZ2.gr hg3 (by simp; omega)
  have hG3 := hG2.trans hg3 (fun r e => .inr (by cases e; omega))
  clear hZ2 hG2 hg3 hr2 hT1 hB1
  have HZ := Lib.hid hZ3
  have HG := Lib.hid hG3
  have HT := Lib.hid hT2
  have HB := Lib.hid hB2
  clear hZ3 hG3 hT2 hB2 hr3
  obtain ⟨z0, z1, zf⟩ := HZ.out
  go_wp2_with fail
  (try simp only [Exit.inBlock, Exit.then])
  refine checkD_ret (b := w.heap.size) HZ.out rfl ?_
  exact ⟨p, _, _, rfl, PrAt.put (Nat.le_refl _) (by omega) HT.out HB.out ht2 hc2 rfl rfl, put2_gr HG.out (Nat.le_refl _)⟩
theorem loansD_ret {R : Ending → World → Prop} {tmps : Array Value} {u : World} {b : Nat} {x0 x1 : Value} (hz : Zp u b x0 x1) {v0 v1 : Value} (ht : tmps.getD 2 undef = .pointer (some ⟨b, 0, none⟩)) (h : R (.returned (.agg #[v0, v1])) (put2 u b v0 v1)) :
    bodyPost Try.prog Try.f50 R .ret { tmps := tmps, defers := [] } (put2 u b v0 v1) := by
  obtain ⟨c0, c1⟩ := hz.put2 v0 v1
  generalize put2 u b v0 v1 = W at *
  have ht' : tmps[2]?.getD undef = .pointer (some ⟨b, 0, none⟩) := by simpa using ht
  refine bodyPost_ret (v := .agg #[v0, v1]) ?_ rfl h
  simp [results, Try.results50, go_sem, ht', c0, c1]
set_option maxRecDepth 100000 in
set_option maxHeartbeats 8000000 in
theorem loansD_any (a : Option Addr) (n c : Nat) (w : World) (h : BytesIn w a n) (hc : n ≤ c) (hn : n ≤ 100000000) : Calls Try.prog 50 #[.slice a n c] w (Drawn0 w) := by
  have hZ := Zp.new w (.slice none 0 0) (.slice none 0 0) 26
  have hA : Gr w (w.alloc (.cells #[.slice none 0 0, .slice none 0 0] 26)) none := (Gr.refl _ _).alloc _
  have hBy := h.gr0 hA
  go_enter Try.func50, Try.ntmps50
  go_wp2_with fail
  refine (validD_any a n c _ hBy hc hn).mono ?_
  rintro e w1 ⟨p, v0, v1, rfl, ⟨at', ab, ct, cb, rfl, rfl, hT, hB, ht, hc2⟩, hg1⟩
  have HZ := Lib.hid (hZ.gr hg1 (by simp))
  have HG := Lib.hid (hA.trans0 hg1)
  have HT := Lib.hid hT
  have HB := Lib.hid hB
  clear hA hZ hg1 hT hB
  obtain ⟨z0, z1, zf⟩ := HZ.out
  go_wp2_with fail
  (try simp only [Exit.inBlock, Exit.then])
  refine loansD_ret (b := w.heap.size) HZ.out rfl ?_
  exact ⟨p, _, _, rfl, PrAt.put (Nat.le_refl _) (by simp) HT.out HB.out ht hc2 rfl rfl, put2_gr HG.out (Nat.le_refl _)⟩
theorem boundsD_ret {R : Ending → World → Prop} {tmps : Array Value} {u : World} {b : Nat} {x0 x1 : Value} (hz : Zp u b x0 x1) {v0 v1 : Value} (ht : tmps.getD 2 undef = .pointer (some ⟨b, 0, none⟩)) (h : R (.returned (.agg #[v0, v1])) (put2 u b v0 v1)) :
    bodyPost Try.prog Try.f45 R .ret { tmps := tmps, defers := [] } (put2 u b v0 v1) := by
  obtain ⟨c0, c1⟩ := hz.put2 v0 v1
  generalize put2 u b v0 v1 = W at *
  have ht' : tmps[2]?.getD undef = .pointer (some ⟨b, 0, none⟩) := by simpa using ht
  refine bodyPost_ret (v := .agg #[v0, v1]) ?_ rfl h
  simp [results, Try.results45, go_sem, ht', c0, c1]
set_option maxRecDepth 100000 in
set_option maxHeartbeats 8000000 in
theorem boundsD_any (a : Option Addr) (n c : Nat) (w : World) (h : BytesIn w a n) (hc : n ≤ c) (hn : n ≤ 100000000) : Calls Try.prog 45 #[.slice a n c] w (Drawn0 w) := by
  have hZ := Zp.new w (.slice none 0 0) (.slice none 0 0) 26
  have hA : Gr w (w.alloc (.cells #[.slice none 0 0, .slice none 0 0] 26)) none := (Gr.refl _ _).alloc _
  have hBy := h.gr0 hA
  go_enter Try.func45, Try.ntmps45
  go_wp2_with fail
  refine (checkD_any a n c _ hBy hc hn).mono ?_
  rintro e w1 ⟨p, v0, v1, rfl, ⟨at', ab, ct, cb, rfl, rfl, hT, hB, ht, hc2⟩, hg1⟩
  have HZ := Lib.hid (hZ.gr hg1 (by simp))
  have HG := Lib.hid (hA.trans0 hg1)
  have HT := Lib.hid hT
  have HB := Lib.hid hB
  clear hA hZ hg1 hT hB
  obtain ⟨z0, z1, zf⟩ := HZ.out
  go_wp2_with fail
  (try simp only [Exit.inBlock, Exit.then])
  refine boundsD_ret (b := w.heap.size) HZ.out rfl ?_
  exact ⟨p, _, _, rfl, PrAt.put (Nat.le_refl _) (by simp) HT.out HB.out ht hc2 rfl rfl, put2_gr HG.out (Nat.le_refl _)⟩
end Go.Proofs.Ytpnaeijkllmihaa

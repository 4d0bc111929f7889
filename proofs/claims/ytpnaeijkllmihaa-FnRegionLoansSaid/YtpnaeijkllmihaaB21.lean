/- Walks of drawn arguments, weakly: regions. -/
import Derived.Test.YtpnaeijkllmihaaB18

namespace Go.Proofs.Ytpnaeijkllmihaa

open Go.RowKit

theorem inAt_new (w : World) (m : Nat) (hm : w.heap.size = m) (l : List Int) (cs : Array Value) (hc : cs.toList = l.map fun x => Value.int .i64 x) (t : TypeId) : InAt (w.alloc (.cells cs t)) (fun b _ => b = m) l (some ⟨m, 0, none⟩) := by
  subst hm
  refine InAt.of fun i hi => ⟨rfl, ?_⟩
  rw [cell_of_row _ _ _ _ _ _ (heap1_0 _ _), Nat.zero_add, ← Array.getElem?_toList, hc]
  simp [hi]
/-- The places of a literal: one block, not that of the reader. -/
theorem InAt.ne {w : World} {k rb : Nat} {l : List Int} {a : Option Addr} (h : InAt w (fun b _ => b = k) l a) (hk : k ≠ rb) : InAt w (fun b _ => b ≠ rb) l a := h.mono (fun b _ hb => by rw [hb]; exact hk) (fun _ _ _ _ h => h)
theorem regionD_ret {R : Ending → World → Prop} {tmps : Array Value} {u : World} {b : Nat} {x0 x1 : Value} (hz : Zp u b x0 x1) {v0 v1 v3 : Value} (ht : tmps.getD 2 undef = .pointer (some ⟨b, 0, none⟩)) (h3 : tmps.getD 3 undef = v3) (h : R (.returned (.tuple #[.agg #[v0, v1], v3])) (put2 u b v0 v1)) :
    bodyPost Try.prog Try.f41 R .ret { tmps := tmps, defers := [] } (put2 u b v0 v1) := by
  obtain ⟨c0, c1⟩ := hz.put2 v0 v1
  generalize put2 u b v0 v1 = W at *
  have ht' : tmps[2]?.getD undef = .pointer (some ⟨b, 0, none⟩) := by simpa using ht
  have h3' : tmps[3]?.getD undef = v3 := by simpa using h3
  refine bodyPost_ret (v := .tuple #[.agg #[v0, v1], v3]) ?_ rfl h
  simp [results, Try.results41, go_sem, ht', h3', c0, c1]
set_option maxRecDepth 100000 in
set_option maxHeartbeats 8000000 in
theorem regionD_any (a : Option Addr) (n c : Nat) (w : World) (h : BytesIn w a n) (hc : n ≤ c) (hn : n ≤ 100000000) : Calls Try.prog 41 #[.slice a n c] w (Drawn1 w) := by
  have hZ := Zp.new w (.slice none 0 0) (.slice none 0 0) 26
  have hA : Gr w (w.alloc (.cells #[.slice none 0 0, .slice none 0 0] 26)) none := (Gr.refl _ _).alloc _
  have hBy := h.gr0 hA
  go_enter Try.func41, Try.ntmps41
  go_wp2_with fail
  refine (checkD_any a n c _ hBy hc hn).mono ?_
  rintro e w1 ⟨p, v0, v1, rfl, ⟨at', ab, ct, cb, rfl, rfl, hT1, hB1, ht2, hc2⟩, hg1⟩
  have hlb := count_length p.body
  have hgA : Gr w1 (w1.alloc (.cells #[.slice at' p.types.length ct, .slice ab p.body.length cb] 26)) none := (Gr.refl _ _).alloc _
  have hsz1 : w.heap.size < w1.heap.size := (hZ.gr hg1 (by simp)).lt
  have HG0 := Lib.hid ((hA.trans0 hg1).trans0 hgA)
  have HZ0 := Lib.hid ((hZ.gr hg1 (by simp)).gr hgA (by simp))
  have HP0 := Lib.hid (Zp.new w1 (.slice at' p.types.length ct) (.slice ab p.body.length cb) 26)
  have HT0 := Lib.hid (hT1.gr0 hgA)
  have HB0 := Lib.hid (hB1.gr0 hgA)
  have HBy := Lib.hid ((hBy.gr0 hg1).gr0 hgA)
  clear hZ hA hBy h hg1 hT1 hB1 hgA
  go_upto_region 2 with fail
  obtain ⟨wA, hwA⟩ : ∃ wA : World, wA = w1.alloc (.cells #[.slice at' p.types.length ct, .slice ab p.body.length cb] 26) := ⟨_, rfl⟩
  have hszA : wA.heap.size = w1.heap.size + 1 := by rw [hwA]; simp
  rw [← hwA] at HG0 HZ0 HP0 HT0 HB0 HBy ⊢
  clear hwA
  refine wp_region_held_drew (S := fun w' => Gr w w' none ∧ w'.cell? ⟨w1.heap.size, 0, none⟩ = some (.slice at' p.types.length ct) ∧ w'.cell? ⟨w1.heap.size, 1, none⟩ = some (.slice ab p.body.length cb)) (by kernel_rfl) (⟨HG0.out.drew, HP0.out.1, HP0.out.2.1⟩) (fun hHeld => ?_)
  refine wpAnyH_take (i := 0) (v := ?_) rfl (by kernel_rfl) (by kernel_rfl) (by kernel_rfl) (fun _ _ _ h => h) (Or.inl ⟨by rfl, ?_⟩) hHeld ?_
  rotate_left
  focus (intro wq hq; obtain ⟨_, k0, k1⟩ := hq; go_simp; try with_reducible rfl)
  simp only [Act.put, List.getElem_toArray, List.getElem_cons_zero, List.setIfInBounds_toArray, List.set_cons_zero, List.set_cons_succ]
  refine wpAnyH_take (i := 1) (v := ?_) rfl (by kernel_rfl) (by kernel_rfl) (by kernel_rfl) (fun _ _ _ h => h) (Or.inl ⟨by rfl, ?_⟩) hHeld ?_
  rotate_left
  focus (intro wq hq; clear hq; go_simp; try with_reducible rfl)
  simp only [Act.put, List.getElem_toArray, List.getElem_cons_succ, List.getElem_cons_zero, List.setIfInBounds_toArray, List.set_cons_zero, List.set_cons_succ]
  refine wpAnyH_ready (rs := [2, 3]) (by kernel_rfl) (by simp) ?_
  refine AllReadyH.cons rfl (fun K hK => ?_) (AllReadyH.cons rfl (fun K hK => ?_) AllReadyH.nil)
  · go_simp
    refine (open_any a n c _ (HBy.out.gr0 (Gr.refl _ none).drew) hc hn).mono ?_
    rintro e x1 ⟨rb, rfl, hr9, hrb, hg9⟩
    try simp at hrb
    have hlt1 := hr9.lt
    have hwr : w.heap.size < rb := by omega
    have hrb9 : rb ≠ w1.heap.size := by omega
    have hgo := Gr.trans0 (Gr.refl _ none).drew hg9
    have HS1 := Lib.hid (show DrS w x1 rb 0 w1.heap.size p at' ab ct cb from ⟨HG0.out.trans0 hgo, HZ0.out.gr hgo (by simp), HP0.out.gr hgo (by simp), (InAt.mono (fun k _ hk => by have := hk.1; have := hk.2; unfold New at *; simp at *; exact ⟨by omega, by omega⟩) (fun _ _ _ _ h => h) _ _ (InAt.lt _ _ HT0.out)).gr0 hgo, (SlAt.sub (SlAt.lt _ _ HB0.out) (fun k _ hk => by have := hk.1; have := hk.2; unfold New at *; simp at *; exact ⟨by omega, by omega⟩)).gr0 hgo, hr9⟩)
    try dsimp only
    refine hK.out _ _ (⟨hHeld.1.trans0 hg9, hg9.cell hHeld.2.1 (by simp), hg9.cell hHeld.2.2 (by simp)⟩) (fun hHeld => ?_)
    clear hg9 hr9 hgo
    clear hK K
    try simp only [Act.put, List.getElem_toArray, List.getElem_cons_succ, List.getElem_cons_zero, List.setIfInBounds_toArray, List.set_cons_zero, List.set_cons_succ]
    refine wpAnyH_ready (rs := [3]) (by kernel_rfl) (by simp) ?_
    refine AllReadyH.cons rfl (fun K hK => ?_) AllReadyH.nil
    go_simp
    try dsimp only
    refine hK.out _ _ (⟨Gr.alloc hHeld.1 _, ((Gr.refl _ none).alloc _).cell hHeld.2.1 (by simp), ((Gr.refl _ none).alloc _).cell hHeld.2.2 (by simp)⟩) (fun hHeld => ?_)
    clear hK K
    try simp only [Act.put, List.getElem_toArray, List.getElem_cons_succ, List.getElem_cons_zero, List.setIfInBounds_toArray, List.set_cons_zero, List.set_cons_succ]
    refine wpAnyH_ready (rs := [4]) (by kernel_rfl) (by simp) ?_
    refine AllReadyH.cons rfl (fun K hK => ?_) AllReadyH.nil
    go_simp
    refine (num_any rb 0 [2, 3, 4, 5, 1, 0, -1, 9] 8 rfl _ _ _ (HS1.out.2.2.2.2.2.gr0 ((Gr.refl _ none).alloc _)) (by omega) (InAt.ne (inAt_new _ _ (by simp <;> omega) [2, 3, 4, 5, 1, 0, -1, 9] _ rfl _) (by simp; omega)) (by omega) (by omega)).mono ?_
    rintro e x2 ⟨v4, hm4, rfl, hg9, hr9⟩
    have hlt2 := hr9.lt
    have HS2 := Lib.hid ((HS1.out.gr0 ((Gr.refl _ none).alloc _)).far hg9 hr9 hwr hrb9)
    try dsimp only
    refine hK.out _ _ (⟨Gr.trans hHeld.1 hg9 (fun r e => .inr (by cases e; omega)), Gr.cell hg9 hHeld.2.1 (by simp; omega), Gr.cell hg9 hHeld.2.2 (by simp; omega)⟩) (fun hHeld => ?_)
    clear hg9 hr9
    clear hK K
    try simp only [Act.put, List.getElem_toArray, List.getElem_cons_succ, List.getElem_cons_zero, List.setIfInBounds_toArray, List.set_cons_zero, List.set_cons_succ]
    refine wpAnyH_ready (rs := [5]) (by kernel_rfl) (by simp) ?_
    refine AllReadyH.cons rfl (fun K hK => ?_) AllReadyH.nil
    obtain ⟨z0, z1, zf⟩ := HS2.out.2.1
    go_simp
    try dsimp only
    refine hK.out _ _ (⟨put2_gr hHeld.1 (Nat.le_refl _), by rw [World.cell?_setCell_other _ _ _ _ (by simp <;> omega), World.cell?_setCell_other _ _ _ _ (by simp <;> omega)]; exact hHeld.2.1, by rw [World.cell?_setCell_other _ _ _ _ (by simp <;> omega), World.cell?_setCell_other _ _ _ _ (by simp <;> omega)]; exact hHeld.2.2⟩) (fun hHeld => ?_)
    clear hK K
    try simp only [Act.put, List.getElem_toArray, List.getElem_cons_succ, List.getElem_cons_zero, List.setIfInBounds_toArray, List.set_cons_zero, List.set_cons_succ]
    refine wpAnyH_take (i := 6) (v := ?_) rfl (by kernel_rfl) (by kernel_rfl) (by kernel_rfl) (fun _ _ _ h => h) (Or.inl ⟨by rfl, ?_⟩) hHeld ?_
    rotate_left
    focus (intro wq hq; clear hq; go_simp; try with_reducible rfl)
    simp only [Act.put, List.getElem_toArray, List.getElem_cons_succ, List.getElem_cons_zero, List.setIfInBounds_toArray, List.set_cons_zero, List.set_cons_succ]
    refine wpAnyH_done (by kernel_rfl) ?_ _
    have hv4 : -1000000 ≤ v4 ∧ v4 ≤ 1000000 := by simp at hm4; omega
    obtain ⟨z0, z1, zf⟩ := HS2.out.2.1
    have HH := Lib.hid hHeld
    clear hHeld
    go_wp2_with fail
    (try simp only [Exit.inBlock, Exit.then])
    refine regionD_ret (b := w.heap.size) HS2.out.2.1 rfl rfl ?_
    exact ⟨p, _, _, v4, rfl, HS2.out.put ht2 hc2, hv4.1, hv4.2, HH.out.1⟩
  · go_simp
    try dsimp only
    refine hK.out _ _ (⟨Gr.alloc hHeld.1 _, ((Gr.refl _ none).alloc _).cell hHeld.2.1 (by simp), ((Gr.refl _ none).alloc _).cell hHeld.2.2 (by simp)⟩) (fun hHeld => ?_)
    clear hK K
    try simp only [Act.put, List.getElem_toArray, List.getElem_cons_succ, List.getElem_cons_zero, List.setIfInBounds_toArray, List.set_cons_zero, List.set_cons_succ]
    refine wpAnyH_ready (rs := [2]) (by kernel_rfl) (by simp) ?_
    refine AllReadyH.cons rfl (fun K hK => ?_) AllReadyH.nil
    go_simp
    refine (open_any a n c _ (HBy.out.gr0 ((Gr.refl _ none).drew.alloc _)) hc hn).mono ?_
    rintro e x1 ⟨rb, rfl, hr9, hrb, hg9⟩
    try simp at hrb
    have hlt1 := hr9.lt
    have hwr : w.heap.size < rb := by omega
    have hrb9 : rb ≠ w1.heap.size := by omega
    have hgo := Gr.trans0 ((Gr.refl _ none).drew.alloc _) hg9
    have HS1 := Lib.hid (show DrS w x1 rb 0 w1.heap.size p at' ab ct cb from ⟨HG0.out.trans0 hgo, HZ0.out.gr hgo (by simp), HP0.out.gr hgo (by simp), (InAt.mono (fun k _ hk => by have := hk.1; have := hk.2; unfold New at *; simp at *; exact ⟨by omega, by omega⟩) (fun _ _ _ _ h => h) _ _ (InAt.lt _ _ HT0.out)).gr0 hgo, (SlAt.sub (SlAt.lt _ _ HB0.out) (fun k _ hk => by have := hk.1; have := hk.2; unfold New at *; simp at *; exact ⟨by omega, by omega⟩)).gr0 hgo, hr9⟩)
    have HL1_3 := Lib.hid (show InAt x1 (fun b _ => b = w1.heap.size + 1) [2, 3, 4, 5, 1, 0, -1, 9] (some ⟨w1.heap.size + 1, 0, none⟩) from InAt.gr0 hg9 (inAt_new _ _ (by simp <;> omega) [2, 3, 4, 5, 1, 0, -1, 9] _ rfl _))
    try dsimp only
    refine hK.out _ _ (⟨hHeld.1.trans0 hg9, hg9.cell hHeld.2.1 (by simp), hg9.cell hHeld.2.2 (by simp)⟩) (fun hHeld => ?_)
    clear hg9 hr9 hgo
    clear hK K
    try simp only [Act.put, List.getElem_toArray, List.getElem_cons_succ, List.getElem_cons_zero, List.setIfInBounds_toArray, List.set_cons_zero, List.set_cons_succ]
    refine wpAnyH_ready (rs := [4]) (by kernel_rfl) (by simp) ?_
    refine AllReadyH.cons rfl (fun K hK => ?_) AllReadyH.nil
    go_simp
    refine (num_any rb 0 [2, 3, 4, 5, 1, 0, -1, 9] 8 rfl _ _ _ (HS1.out.2.2.2.2.2.gr0 (Gr.refl _ none)) (by omega) (InAt.ne (HL1_3.out) (by simp; omega)) (by omega) (by omega)).mono ?_
    rintro e x2 ⟨v4, hm4, rfl, hg9, hr9⟩
    have hlt2 := hr9.lt
    have HS2 := Lib.hid ((HS1.out.gr0 (Gr.refl _ none)).far hg9 hr9 hwr hrb9)
    try dsimp only
    refine hK.out _ _ (⟨Gr.trans hHeld.1 hg9 (fun r e => .inr (by cases e; omega)), Gr.cell hg9 hHeld.2.1 (by simp; omega), Gr.cell hg9 hHeld.2.2 (by simp; omega)⟩) (fun hHeld => ?_)
    clear hg9 hr9
    clear hK K
    try simp only [Act.put, List.getElem_toArray, List.getElem_cons_succ, List.getElem_cons_zero, List.setIfInBounds_toArray, List.set_cons_zero, List.set_cons_succ]
    refine wpAnyH_ready (rs := [5]) (by kernel_rfl) (by simp) ?_
    refine AllReadyH.cons rfl (fun K hK => ?_) AllReadyH.nil
    obtain ⟨z0, z1, zf⟩ := HS2.out.2.1
    go_simp
    try dsimp only
    refine hK.out _ _ (⟨put2_gr hHeld.1 (Nat.le_refl _), by rw [World.cell?_setCell_other _ _ _ _ (by simp <;> omega), World.cell?_setCell_other _ _ _ _ (by simp <;> omega)]; exact hHeld.2.1, by rw [World.cell?_setCell_other _ _ _ _ (by simp <;> omega), World.cell?_setCell_other _ _ _ _ (by simp <;> omega)]; exact hHeld.2.2⟩) (fun hHeld => ?_)
    clear hK K
    try simp only [Act.put, List.getElem_toArray, List.getElem_cons_succ, List.getElem_cons_zero, List.setIfInBounds_toArray, List.set_cons_zero, List.set_cons_succ]
    refine wpAnyH_take (i := 6) (v := ?_) rfl (by kernel_rfl) (by kernel_rfl) (by kernel_rfl) (fun _ _ _ h => h) (Or.inl ⟨by rfl, ?_⟩) hHeld ?_
    rotate_left
    focus (intro wq hq; clear hq; go_simp; try with_reducible rfl)
    simp only [Act.put, List.getElem_toArray, List.getElem_cons_succ, List.getElem_cons_zero, List.setIfInBounds_toArray, List.set_cons_zero, List.set_cons_succ]
    refine wpAnyH_done (by kernel_rfl) ?_ _
    have hv4 : -1000000 ≤ v4 ∧ v4 ≤ 1000000 := by simp at hm4; omega
    obtain ⟨z0, z1, zf⟩ := HS2.out.2.1
    have HH := Lib.hid hHeld
    clear hHeld
    go_wp2_with fail
    (try simp only [Exit.inBlock, Exit.then])
    refine regionD_ret (b := w.heap.size) HS2.out.2.1 rfl rfl ?_
    exact ⟨p, _, _, v4, rfl, HS2.out.put ht2 hc2, hv4.1, hv4.2, HH.out.1⟩
theorem outD_ret {R : Ending → World → Prop} {tmps : Array Value} {u : World} {b : Nat} {x0 x1 : Value} (hz : Zp u b x0 x1) {v0 v1 v3 v4 : Value} (ht : tmps.getD 2 undef = .pointer (some ⟨b, 0, none⟩)) (h3 : tmps.getD 3 undef = v3) (h4 : tmps.getD 4 undef = v4) (h : R (.returned (.tuple #[.agg #[v0, v1], v3, v4])) (put2 u b v0 v1)) :
    bodyPost Try.prog Try.f16 R .ret { tmps := tmps, defers := [] } (put2 u b v0 v1) := by
  obtain ⟨c0, c1⟩ := hz.put2 v0 v1
  generalize put2 u b v0 v1 = W at *
  have ht' : tmps[2]?.getD undef = .pointer (some ⟨b, 0, none⟩) := by simpa using ht
  have h3' : tmps[3]?.getD undef = v3 := by simpa using h3
  have h4' : tmps[4]?.getD undef = v4 := by simpa using h4
  refine bodyPost_ret (v := .tuple #[.agg #[v0, v1], v3, v4]) ?_ rfl h
  simp [results, Try.results16, go_sem, ht', h3', h4', c0, c1]
set_option maxRecDepth 100000 in
set_option maxHeartbeats 8000000 in
theorem outD_any (a : Option Addr) (n c : Nat) (w : World) (h : BytesIn w a n) (hc : n ≤ c) (hn : n ≤ 100000000) : Calls Try.prog 16 #[.slice a n c] w (Drawn2 w) := by
  have hZ := Zp.new w (.slice none 0 0) (.slice none 0 0) 26
  have hA : Gr w (w.alloc (.cells #[.slice none 0 0, .slice none 0 0] 26)) none := (Gr.refl _ _).alloc _
  have hBy := h.gr0 hA
  go_enter Try.func16, Try.ntmps16
  go_wp2_with fail
  refine (checkD_any a n c _ hBy hc hn).mono ?_
  rintro e w1 ⟨p, v0, v1, rfl, ⟨at', ab, ct, cb, rfl, rfl, hT1, hB1, ht2, hc2⟩, hg1⟩
  have hlb := count_length p.body
  have hgA : Gr w1 (w1.alloc (.cells #[.slice at' p.types.length ct, .slice ab p.body.length cb] 26)) none := (Gr.refl _ _).alloc _
  have hsz1 : w.heap.size < w1.heap.size := (hZ.gr hg1 (by simp)).lt
  have HG0 := Lib.hid ((hA.trans0 hg1).trans0 hgA)
  have HZ0 := Lib.hid ((hZ.gr hg1 (by simp)).gr hgA (by simp))
  have HP0 := Lib.hid (Zp.new w1 (.slice at' p.types.length ct) (.slice ab p.body.length cb) 26)
  have HT0 := Lib.hid (hT1.gr0 hgA)
  have HB0 := Lib.hid (hB1.gr0 hgA)
  have HBy := Lib.hid ((hBy.gr0 hg1).gr0 hgA)
  clear hZ hA hBy h hg1 hT1 hB1 hgA
  go_wp2_with fail
  obtain ⟨wA, hwA⟩ : ∃ wA : World, wA = w1.alloc (.cells #[.slice at' p.types.length ct, .slice ab p.body.length cb] 26) := ⟨_, rfl⟩
  have hszA : wA.heap.size = w1.heap.size + 1 := by rw [hwA]; simp
  rw [← hwA] at HG0 HZ0 HP0 HT0 HB0 HBy ⊢
  clear hwA
  refine (open_any a n c _ HBy.out hc hn).mono ?_
  rintro e w4 ⟨rb, rfl, hR4, hrb, hg4⟩
  have hwr : w.heap.size < rb := by omega
  have hrb9 : rb ≠ w1.heap.size := by omega
  have hlt4 := hR4.lt
  have HS := Lib.hid (show DrS w w4 rb 0 w1.heap.size p at' ab ct cb from ⟨HG0.out.trans0 hg4, HZ0.out.gr hg4 (by simp), HP0.out.gr hg4 (by simp),
    (InAt.mono (fun k _ hk => by have := hk.1; have := hk.2; unfold New at *; simp at *; exact ⟨by omega, by omega⟩) (fun _ _ _ _ h => h) _ _ (InAt.lt _ _ HT0.out)).gr0 hg4,
    (SlAt.sub (SlAt.lt _ _ HB0.out) (fun k _ hk => by have := hk.1; have := hk.2; unfold New at *; simp at *; exact ⟨by omega, by omega⟩)).gr0 hg4, hR4⟩)
  have hsz4 : w1.heap.size < w4.heap.size := HS.out.2.2.1.lt
  clear HG0 HZ0 HP0 HT0 HB0 HBy hg4 hR4
  go_upto_region 3 with fail
  refine wp_region_held_drew (S := fun w' => Gr w w' none ∧ w'.cell? ⟨w1.heap.size, 0, none⟩ = some (.slice at' p.types.length ct) ∧ w'.cell? ⟨w1.heap.size, 1, none⟩ = some (.slice ab p.body.length cb)) (by kernel_rfl) (⟨HS.out.1.drew, HS.out.2.2.1.1, HS.out.2.2.1.2.1⟩) (fun hHeld => ?_)
  refine wpAnyH_take (i := 0) (v := ?_) rfl (by kernel_rfl) (by kernel_rfl) (by kernel_rfl) (fun _ _ _ h => h) (Or.inl ⟨by rfl, ?_⟩) hHeld ?_
  rotate_left
  focus (intro wq hq; obtain ⟨_, k0, k1⟩ := hq; go_simp; try with_reducible rfl)
  simp only [Act.put, List.getElem_toArray, List.getElem_cons_zero, List.setIfInBounds_toArray, List.set_cons_zero, List.set_cons_succ]
  refine wpAnyH_take (i := 1) (v := ?_) rfl (by kernel_rfl) (by kernel_rfl) (by kernel_rfl) (fun _ _ _ h => h) (Or.inl ⟨by rfl, ?_⟩) hHeld ?_
  rotate_left
  focus (intro wq hq; clear hq; go_simp; try with_reducible rfl)
  simp only [Act.put, List.getElem_toArray, List.getElem_cons_succ, List.getElem_cons_zero, List.setIfInBounds_toArray, List.set_cons_zero, List.set_cons_succ]
  refine wpAnyH_take (i := 4) (v := ?_) rfl (by kernel_rfl) (by kernel_rfl) (by kernel_rfl) (fun _ _ _ h => h) (Or.inl ⟨by rfl, ?_⟩) hHeld ?_
  rotate_left
  focus (intro wq hq; clear hq; go_simp; try with_reducible rfl)
  simp only [Act.put, List.getElem_toArray, List.getElem_cons_succ, List.getElem_cons_zero, List.setIfInBounds_toArray, List.set_cons_zero, List.set_cons_succ]
  refine wpAnyH_ready (rs := [2, 5]) (by kernel_rfl) (by simp) ?_
  refine AllReadyH.cons rfl (fun K hK => ?_) (AllReadyH.cons rfl (fun K hK => ?_) AllReadyH.nil)
  · go_simp
    try dsimp only
    refine hK.out _ _ (⟨Gr.alloc hHeld.1 _, ((Gr.refl _ none).alloc _).cell hHeld.2.1 (by simp), ((Gr.refl _ none).alloc _).cell hHeld.2.2 (by simp)⟩) (fun hHeld => ?_)
    clear hK K
    try simp only [Act.put, List.getElem_toArray, List.getElem_cons_succ, List.getElem_cons_zero, List.setIfInBounds_toArray, List.set_cons_zero, List.set_cons_succ]
    refine wpAnyH_ready (rs := [3, 5]) (by kernel_rfl) (by simp) ?_
    refine AllReadyH.cons rfl (fun K hK => ?_) (AllReadyH.cons rfl (fun K hK => ?_) AllReadyH.nil)
    · go_simp
      refine (num_any rb 0 [3, 2, 4, 5, 0, -1] 6 rfl _ _ _ (HS.out.2.2.2.2.2.gr0 ((Gr.refl _ none).drew.alloc _)) (by omega) (InAt.ne (inAt_new _ _ (by simp <;> omega) [3, 2, 4, 5, 0, -1] _ rfl _) (by simp; omega)) (by omega) (by omega)).mono ?_
      rintro e x1 ⟨v3, hm3, rfl, hg9, hr9⟩
      have hlt1 := hr9.lt
      have HS1 := Lib.hid ((HS.out.gr0 ((Gr.refl _ none).drew.alloc _)).far hg9 hr9 hwr hrb9)
      try dsimp only
      refine hK.out _ _ (⟨Gr.trans hHeld.1 hg9 (fun r e => .inr (by cases e; omega)), Gr.cell hg9 hHeld.2.1 (by simp; omega), Gr.cell hg9 hHeld.2.2 (by simp; omega)⟩) (fun hHeld => ?_)
      clear hg9 hr9
      clear hK K
      try simp only [Act.put, List.getElem_toArray, List.getElem_cons_succ, List.getElem_cons_zero, List.setIfInBounds_toArray, List.set_cons_zero, List.set_cons_succ]
      refine wpAnyH_ready (rs := [5]) (by kernel_rfl) (by simp) ?_
      refine AllReadyH.cons rfl (fun K hK => ?_) AllReadyH.nil
      go_simp
      try dsimp only
      refine hK.out _ _ (⟨Gr.alloc hHeld.1 _, ((Gr.refl _ none).alloc _).cell hHeld.2.1 (by simp), ((Gr.refl _ none).alloc _).cell hHeld.2.2 (by simp)⟩) (fun hHeld => ?_)
      clear hK K
      try simp only [Act.put, List.getElem_toArray, List.getElem_cons_succ, List.getElem_cons_zero, List.setIfInBounds_toArray, List.set_cons_zero, List.set_cons_succ]
      refine wpAnyH_ready (rs := [6]) (by kernel_rfl) (by simp) ?_
      refine AllReadyH.cons rfl (fun K hK => ?_) AllReadyH.nil
      go_simp
      refine (num_any rb 1 [2, 3, 4, 5, 1, 9] 6 rfl _ _ _ (HS1.out.2.2.2.2.2.gr0 ((Gr.refl _ none).alloc _)) (by omega) (InAt.ne (inAt_new _ _ (by simp <;> omega) [2, 3, 4, 5, 1, 9] _ rfl _) (by simp; omega)) (by omega) (by omega)).mono ?_
      rintro e x2 ⟨v6, hm6, rfl, hg9, hr9⟩
      have hlt2 := hr9.lt
      have HS2 := Lib.hid ((HS1.out.gr0 ((Gr.refl _ none).alloc _)).far hg9 hr9 hwr hrb9)
      try dsimp only
      refine hK.out _ _ (⟨Gr.trans hHeld.1 hg9 (fun r e => .inr (by cases e; omega)), Gr.cell hg9 hHeld.2.1 (by simp; omega), Gr.cell hg9 hHeld.2.2 (by simp; omega)⟩) (fun hHeld => ?_)
      clear hg9 hr9
      clear hK K
      try simp only [Act.put, List.getElem_toArray, List.getElem_cons_succ, List.getElem_cons_zero, List.setIfInBounds_toArray, List.set_cons_zero, List.set_cons_succ]
      refine wpAnyH_ready (rs := [7]) (by kernel_rfl) (by simp) ?_
      refine AllReadyH.cons rfl (fun K hK => ?_) AllReadyH.nil
      obtain ⟨z0, z1, zf⟩ := HS2.out.2.1
      go_simp
      try dsimp only
      refine hK.out _ _ (⟨put2_gr hHeld.1 (Nat.le_refl _), by rw [World.cell?_setCell_other _ _ _ _ (by simp <;> omega), World.cell?_setCell_other _ _ _ _ (by simp <;> omega)]; exact hHeld.2.1, by rw [World.cell?_setCell_other _ _ _ _ (by simp <;> omega), World.cell?_setCell_other _ _ _ _ (by simp <;> omega)]; exact hHeld.2.2⟩) (fun hHeld => ?_)
      clear hK K
      try simp only [Act.put, List.getElem_toArray, List.getElem_cons_succ, List.getElem_cons_zero, List.setIfInBounds_toArray, List.set_cons_zero, List.set_cons_succ]
      refine wpAnyH_take (i := 8) (v := ?_) rfl (by kernel_rfl) (by kernel_rfl) (by kernel_rfl) (fun _ _ _ h => h) (Or.inl ⟨by rfl, ?_⟩) hHeld ?_
      rotate_left
      focus (intro wq hq; clear hq; go_simp; try with_reducible rfl)
      simp only [Act.put, List.getElem_toArray, List.getElem_cons_succ, List.getElem_cons_zero, List.setIfInBounds_toArray, List.set_cons_zero, List.set_cons_succ]
      refine wpAnyH_take (i := 9) (v := ?_) rfl (by kernel_rfl) (by kernel_rfl) (by kernel_rfl) (fun _ _ _ h => h) (Or.inl ⟨by rfl, ?_⟩) hHeld ?_
      rotate_left
      focus (intro wq hq; clear hq; go_simp; try with_reducible rfl)
      simp only [Act.put, List.getElem_toArray, List.getElem_cons_succ, List.getElem_cons_zero, List.setIfInBounds_toArray, List.set_cons_zero, List.set_cons_succ]
      refine wpAnyH_done (by kernel_rfl) ?_ _
      have hv3 : -1000000 ≤ v3 ∧ v3 ≤ 1000000 := by simp at hm3; omega
      have hv6 : -1000000 ≤ v6 ∧ v6 ≤ 1000000 := by simp at hm6; omega
      obtain ⟨z0, z1, zf⟩ := HS2.out.2.1
      have HH := Lib.hid hHeld
      clear hHeld
      go_wp2_with fail
      (try simp only [Exit.inBlock, Exit.then])
      refine outD_ret (b := w.heap.size) HS2.out.2.1 rfl rfl rfl ?_
      exact ⟨p, _, _, v3, v6, rfl, HS2.out.put ht2 hc2, hv3.1, hv3.2, hv6.1, hv6.2, HH.out.1⟩
    · go_simp
      try dsimp only
      refine hK.out _ _ (⟨Gr.alloc hHeld.1 _, ((Gr.refl _ none).alloc _).cell hHeld.2.1 (by simp), ((Gr.refl _ none).alloc _).cell hHeld.2.2 (by simp)⟩) (fun hHeld => ?_)
      clear hK K
      try simp only [Act.put, List.getElem_toArray, List.getElem_cons_succ, List.getElem_cons_zero, List.setIfInBounds_toArray, List.set_cons_zero, List.set_cons_succ]
      refine wpAnyH_ready (rs := [3]) (by kernel_rfl) (by simp) ?_
      refine AllReadyH.cons rfl (fun K hK => ?_) AllReadyH.nil
      go_simp
      refine (num_any rb 0 [3, 2, 4, 5, 0, -1] 6 rfl _ _ _ (HS.out.2.2.2.2.2.gr0 (((Gr.refl _ none).drew.alloc _).alloc _)) (by omega) (InAt.ne ((inAt_new _ _ (by simp <;> omega) [3, 2, 4, 5, 0, -1] _ rfl _).gr0 ((Gr.refl _ none).alloc _)) (by simp; omega)) (by omega) (by omega)).mono ?_
      rintro e x1 ⟨v3, hm3, rfl, hg9, hr9⟩
      have hlt1 := hr9.lt
      have HS1 := Lib.hid ((HS.out.gr0 (((Gr.refl _ none).drew.alloc _).alloc _)).far hg9 hr9 hwr hrb9)
      have HL1_5 := Lib.hid (show InAt x1 (fun b _ => b = w4.heap.size + 1) [2, 3, 4, 5, 1, 9] (some ⟨w4.heap.size + 1, 0, none⟩) from InAt.gr hg9 (fun k _ hk e => by have h1 := Option.some.inj e; have h2 : k = _ := hk; omega) (inAt_new _ _ (by simp <;> omega) [2, 3, 4, 5, 1, 9] _ rfl _))
      try dsimp only
      refine hK.out _ _ (⟨Gr.trans hHeld.1 hg9 (fun r e => .inr (by cases e; omega)), Gr.cell hg9 hHeld.2.1 (by simp; omega), Gr.cell hg9 hHeld.2.2 (by simp; omega)⟩) (fun hHeld => ?_)
      clear hg9 hr9
      clear hK K
      try simp only [Act.put, List.getElem_toArray, List.getElem_cons_succ, List.getElem_cons_zero, List.setIfInBounds_toArray, List.set_cons_zero, List.set_cons_succ]
      refine wpAnyH_ready (rs := [6]) (by kernel_rfl) (by simp) ?_
      refine AllReadyH.cons rfl (fun K hK => ?_) AllReadyH.nil
      go_simp
      refine (num_any rb 1 [2, 3, 4, 5, 1, 9] 6 rfl _ _ _ (HS1.out.2.2.2.2.2.gr0 (Gr.refl _ none)) (by omega) (InAt.ne (HL1_5.out) (by simp; omega)) (by omega) (by omega)).mono ?_
      rintro e x2 ⟨v6, hm6, rfl, hg9, hr9⟩
      have hlt2 := hr9.lt
      have HS2 := Lib.hid ((HS1.out.gr0 (Gr.refl _ none)).far hg9 hr9 hwr hrb9)
      try dsimp only
      refine hK.out _ _ (⟨Gr.trans hHeld.1 hg9 (fun r e => .inr (by cases e; omega)), Gr.cell hg9 hHeld.2.1 (by simp; omega), Gr.cell hg9 hHeld.2.2 (by simp; omega)⟩) (fun hHeld => ?_)
      clear hg9 hr9
      clear hK K
      try simp only [Act.put, List.getElem_toArray, List.getElem_cons_succ, List.getElem_cons_zero, List.setIfInBounds_toArray, List.set_cons_zero, List.set_cons_succ]
      refine wpAnyH_ready (rs := [7]) (by kernel_rfl) (by simp) ?_
      refine AllReadyH.cons rfl (fun K hK => ?_) AllReadyH.nil
      obtain ⟨z0, z1, zf⟩ := HS2.out.2.1
      go_simp
      try dsimp only
      refine hK.out _ _ (⟨put2_gr hHeld.1 (Nat.le_refl _), by rw [World.cell?_setCell_other _ _ _ _ (by simp <;> omega), World.cell?_setCell_other _ _ _ _ (by simp <;> omega)]; exact hHeld.2.1, by rw [World.cell?_setCell_other _ _ _ _ (by simp <;> omega), World.cell?_setCell_other _ _ _ _ (by simp <;> omega)]; exact hHeld.2.2⟩) (fun hHeld => ?_)
      clear hK K
      try simp only [Act.put, List.getElem_toArray, List.getElem_cons_succ, List.getElem_cons_zero, List.setIfInBounds_toArray, List.set_cons_zero, List.set_cons_succ]
      refine wpAnyH_take (i := 8) (v := ?_) rfl (by kernel_rfl) (by kernel_rfl) (by kernel_rfl) (fun _ _ _ h => h) (Or.inl ⟨by rfl, ?_⟩) hHeld ?_
      rotate_left
      focus (intro wq hq; clear hq; go_simp; try with_reducible rfl)
      simp only [Act.put, List.getElem_toArray, List.getElem_cons_succ, List.getElem_cons_zero, List.setIfInBounds_toArray, List.set_cons_zero, List.set_cons_succ]
      refine wpAnyH_take (i := 9) (v := ?_) rfl (by kernel_rfl) (by kernel_rfl) (by kernel_rfl) (fun _ _ _ h => h) (Or.inl ⟨by rfl, ?_⟩) hHeld ?_
      rotate_left
      focus (intro wq hq; clear hq; go_simp; try with_reducible rfl)
      simp only [Act.put, List.getElem_toArray, List.getElem_cons_succ, List.getElem_cons_zero, List.setIfInBounds_toArray, List.set_cons_zero, List.set_cons_succ]
      refine wpAnyH_done (by kernel_rfl) ?_ _
      have hv3 : -1000000 ≤ v3 ∧ v3 ≤ 1000000 := by simp at hm3; omega
      have hv6 : -1000000 ≤ v6 ∧ v6 ≤ 1000000 := by simp at hm6; omega
      obtain ⟨z0, z1, zf⟩ := HS2.out.2.1
      have HH := Lib.hid hHeld
      clear hHeld
      go_wp2_with fail
      (try simp only [Exit.inBlock, Exit.then])
      refine outD_ret (b := w.heap.size) HS2.out.2.1 rfl rfl rfl ?_
      exact ⟨p, _, _, v3, v6, rfl, HS2.out.put ht2 hc2, hv3.1, hv3.2, hv6.1, hv6.2, HH.out.1⟩
  · go_simp
    try dsimp only
    refine hK.out _ _ (⟨Gr.alloc hHeld.1 _, ((Gr.refl _ none).alloc _).cell hHeld.2.1 (by simp), ((Gr.refl _ none).alloc _).cell hHeld.2.2 (by simp)⟩) (fun hHeld => ?_)
    clear hK K
    try simp only [Act.put, List.getElem_toArray, List.getElem_cons_succ, List.getElem_cons_zero, List.setIfInBounds_toArray, List.set_cons_zero, List.set_cons_succ]
    refine wpAnyH_ready (rs := [2]) (by kernel_rfl) (by simp) ?_
    refine AllReadyH.cons rfl (fun K hK => ?_) AllReadyH.nil
    go_simp
    try dsimp only
    refine hK.out _ _ (⟨Gr.alloc hHeld.1 _, ((Gr.refl _ none).alloc _).cell hHeld.2.1 (by simp), ((Gr.refl _ none).alloc _).cell hHeld.2.2 (by simp)⟩) (fun hHeld => ?_)
    clear hK K
    try simp only [Act.put, List.getElem_toArray, List.getElem_cons_succ, List.getElem_cons_zero, List.setIfInBounds_toArray, List.set_cons_zero, List.set_cons_succ]
    refine wpAnyH_ready (rs := [3]) (by kernel_rfl) (by simp) ?_
    refine AllReadyH.cons rfl (fun K hK => ?_) AllReadyH.nil
    go_simp
    refine (num_any rb 0 [3, 2, 4, 5, 0, -1] 6 rfl _ _ _ (HS.out.2.2.2.2.2.gr0 (((Gr.refl _ none).drew.alloc _).alloc _)) (by omega) (InAt.ne (inAt_new _ _ (by simp <;> omega) [3, 2, 4, 5, 0, -1] _ rfl _) (by simp; omega)) (by omega) (by omega)).mono ?_
    rintro e x1 ⟨v3, hm3, rfl, hg9, hr9⟩
    have hlt1 := hr9.lt
    have HS1 := Lib.hid ((HS.out.gr0 (((Gr.refl _ none).drew.alloc _).alloc _)).far hg9 hr9 hwr hrb9)
    have HL1_5 := Lib.hid (show InAt x1 (fun b _ => b = w4.heap.size) [2, 3, 4, 5, 1, 9] (some ⟨w4.heap.size, 0, none⟩) from InAt.gr hg9 (fun k _ hk e => by have h1 := Option.some.inj e; have h2 : k = _ := hk; omega) ((inAt_new _ _ (by simp <;> omega) [2, 3, 4, 5, 1, 9] _ rfl _).gr0 ((Gr.refl _ none).alloc _)))
    try dsimp only
    refine hK.out _ _ (⟨Gr.trans hHeld.1 hg9 (fun r e => .inr (by cases e; omega)), Gr.cell hg9 hHeld.2.1 (by simp; omega), Gr.cell hg9 hHeld.2.2 (by simp; omega)⟩) (fun hHeld => ?_)
    clear hg9 hr9
    clear hK K
    try simp only [Act.put, List.getElem_toArray, List.getElem_cons_succ, List.getElem_cons_zero, List.setIfInBounds_toArray, List.set_cons_zero, List.set_cons_succ]
    refine wpAnyH_ready (rs := [6]) (by kernel_rfl) (by simp) ?_
    refine AllReadyH.cons rfl (fun K hK => ?_) AllReadyH.nil
    go_simp
    refine (num_any rb 1 [2, 3, 4, 5, 1, 9] 6 rfl _ _ _ (HS1.out.2.2.2.2.2.gr0 (Gr.refl _ none)) (by omega) (InAt.ne (HL1_5.out) (by simp; omega)) (by omega) (by omega)).mono ?_
    rintro e x2 ⟨v6, hm6, rfl, hg9, hr9⟩
    have hlt2 := hr9.lt
    have HS2 := Lib.hid ((HS1.out.gr0 (Gr.refl _ none)).far hg9 hr9 hwr hrb9)
    try dsimp only
    refine hK.out _ _ (⟨Gr.trans hHeld.1 hg9 (fun r e => .inr (by cases e; omega)), Gr.cell hg9 hHeld.2.1 (by simp; omega), Gr.cell hg9 hHeld.2.2 (by simp; omega)⟩) (fun hHeld => ?_)
    clear hg9 hr9
    clear hK K
    try simp only [Act.put, List.getElem_toArray, List.getElem_cons_succ, List.getElem_cons_zero, List.setIfInBounds_toArray, List.set_cons_zero, List.set_cons_succ]
    refine wpAnyH_ready (rs := [7]) (by kernel_rfl) (by simp) ?_
    refine AllReadyH.cons rfl (fun K hK => ?_) AllReadyH.nil
    obtain ⟨z0, z1, zf⟩ := HS2.out.2.1
    go_simp
    try dsimp only
    refine hK.out _ _ (⟨put2_gr hHeld.1 (Nat.le_refl _), by rw [World.cell?_setCell_other _ _ _ _ (by simp <;> omega), World.cell?_setCell_other _ _ _ _ (by simp <;> omega)]; exact hHeld.2.1, by rw [World.cell?_setCell_other _ _ _ _ (by simp <;> omega), World.cell?_setCell_other _ _ _ _ (by simp <;> omega)]; exact hHeld.2.2⟩) (fun hHeld => ?_)
    clear hK K
    try simp only [Act.put, List.getElem_toArray, List.getElem_cons_succ, List.getElem_cons_zero, List.setIfInBounds_toArray, List.set_cons_zero, List.set_cons_succ]
    refine wpAnyH_take (i := 8) (v := ?_) rfl (by kernel_rfl) (by kernel_rfl) (by kernel_rfl) (fun _ _ _ h => h) (Or.inl ⟨by rfl, ?_⟩) hHeld ?_
    rotate_left
    focus (intro wq hq; clear hq; go_simp; try with_reducible rfl)
    simp only [Act.put, List.getElem_toArray, List.getElem_cons_succ, List.getElem_cons_zero, List.setIfInBounds_toArray, List.set_cons_zero, List.set_cons_succ]
    refine wpAnyH_take (i := 9) (v := ?_) rfl (by kernel_rfl) (by kernel_rfl) (by kernel_rfl) (fun _ _ _ h => h) (Or.inl ⟨by rfl, ?_⟩) hHeld ?_
    rotate_left
    focus (intro wq hq; clear hq; go_simp; try with_reducible rfl)
    simp only [Act.put, List.getElem_toArray, List.getElem_cons_succ, List.getElem_cons_zero, List.setIfInBounds_toArray, List.set_cons_zero, List.set_cons_succ]
    refine wpAnyH_done (by kernel_rfl) ?_ _
    have hv3 : -1000000 ≤ v3 ∧ v3 ≤ 1000000 := by simp at hm3; omega
    have hv6 : -1000000 ≤ v6 ∧ v6 ≤ 1000000 := by simp at hm6; omega
    obtain ⟨z0, z1, zf⟩ := HS2.out.2.1
    have HH := Lib.hid hHeld
    clear hHeld
    go_wp2_with fail
    (try simp only [Exit.inBlock, Exit.then])
    refine outD_ret (b := w.heap.size) HS2.out.2.1 rfl rfl rfl ?_
    exact ⟨p, _, _, v3, v6, rfl, HS2.out.put ht2 hc2, hv3.1, hv3.2, hv6.1, hv6.2, HH.out.1⟩
end Go.Proofs.Ytpnaeijkllmihaa

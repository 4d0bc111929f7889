/- Walks of drawn arguments, weakly: a program, choices and a number. -/
import Derived.Test.YtadidppbhpdnkaaB15

namespace Go.Proofs.Ytadidppbhpdnkaa

open Go.RowKit

/-- A program, a list and a number were drawn. -/
def DrawnC (w : World) (e : Ending) (w' : World) : Prop := ∃ (p : Pr) (v0 v1 : Value) (cs : List Int) (ac : Option Addr) (cc : Nat) (n : Int), e = .returned (.tuple #[.agg #[v0, v1], .slice ac cs.length cc, .int .i64 n]) ∧ PrAt w w' p v0 v1 ∧ InAt w' (New w.heap.size) cs ac ∧ cs.length ≤ cc ∧ cs.length ≤ 8 ∧ -1000000 ≤ n ∧ n ≤ 1000000 ∧ Gr w w' none
def ChR (rb P c : Nat) (w : World) (e : Ending) (w' : World) : Prop := ∃ (cs : List Int) (ac : Option Addr) (cc : Nat), e = .returned (.slice ac cs.length cc) ∧ InAt w' (New w.heap.size) cs ac ∧ cs.length ≤ cc ∧ cs.length ≤ 8 ∧ Gr w w' (some rb) ∧ Rd w' rb (P + c)
theorem Lst.gr2 {w w' : World} {row : Option Nat} {b0 base : Nat} {l : List Int} {ao : Option Addr} {n cap : Nat} (h : Lst w b0 base l ao n cap) (hg : Gr w w' row) (hr : ∀ r, row = some r → r < b0) : Lst w' b0 base l ao n cap := by
  have hne : ∀ g, ob ao = some g → row ≠ some g := by
    intro g hgo e
    have h1 := hr g e
    have h2 := (h.own g hgo).1
    omega
  refine ⟨h.1, h.2.1, ?_⟩
  rcases h.2.2 with ⟨h1, h2, h3⟩ | h4
  · exact .inl ⟨h1, h2, fun g hgo => by
      obtain ⟨hb, cs, t, hc⟩ := h3 g hgo
      exact ⟨hb, cs, t, (hg.block g (lt_of_block hc) (fun e => hne g hgo e.symm)).trans hc⟩⟩
  · exact .inr (h4.kept hg (by
      rw [ownBlock_slice]
      cases ho : ob ao with
      | none => simp
      | some g => exact .inr (fun e => hne g ho e.symm)))
theorem Lst.le_cap {w : World} {b0 base : Nat} {l : List Int} {ao : Option Addr} {n cap : Nat} (h : Lst w b0 base l ao n cap) : n ≤ cap := by
  rcases h.2.2 with ⟨h1, h2, _⟩ | h4
  · have := h.1; rw [h1] at this; simp at this; omega
  · rcases h4.2 with ⟨hv, hn⟩ | ⟨g, cap', cur, hv, hb, hc, h1, _⟩
    · omega
    · cases hv; exact h1
set_option maxRecDepth 100000 in
set_option maxHeartbeats 1000000 in
theorem l2Choices_any (rb P : Nat) (w : World) (hR : Rd w rb P) (hP : P ≤ 4000) : Calls Try.prog 54 #[.pointer (some ⟨rb, 0, none⟩)] w (ChR rb P 10 w) := by
  have hrb := hR.lt
  have hA : Gr w (w.alloc (.cells #[] 3)) (some rb) := (Gr.refl _ _).alloc _
  have hR0 := hR.gr0 ((Gr.refl _ none).alloc (.cells #[] 3))
  have hE : (w.alloc (.cells #[] 3)).heap[w.heap.size]? = some (.cells #[] 3 (0, 0)) := heap1_0 _ _
  go_enter Try.func54, Try.ntmps54
  go_wp2_with fail
  generalize hwA : World.alloc w (.cells #[] 3) = wA at *
  have hlA : wA.heap.size = w.heap.size + 1 := by rw [← hwA]; simp
  have hIA : ∀ t, InAt (wA.alloc (.cells #[.int .i64 4, .int .i64 2, .int .i64 6, .int .i64 0, .int .i64 8] t)) (fun b _ => b ≠ rb) [4, 2, 6, 0, 8] (some ⟨wA.heap.size, 0, none⟩) := fun t => inAt_lit wA rb (by omega) [4, 2, 6, 0, 8] #[.int .i64 4, .int .i64 2, .int .i64 6, .int .i64 0, .int .i64 8] rfl t
  rw [hlA] at hIA
  generalize hwB : World.alloc wA _ = wB at *
  have hgB : Gr wA wB none := by rw [← hwB]; exact (Gr.refl _ _).alloc _
  have hIB : InAt wB (fun b _ => b ≠ rb) [4, 2, 6, 0, 8] (some ⟨w.heap.size + 1, 0, none⟩) := by rw [← hwB]; exact hIA _
  clear hwB hwA hIA
  refine (num_any rb P [4, 2, 6, 0, 8] 5 rfl _ _ _ (hR0.gr0 hgB) (by omega) hIB (by omega) (by omega)).mono ?_
  rintro e w1 ⟨v, hm, rfl, hg1, hr1⟩
  have hlB := hgB.size
  obtain ⟨N, rfl⟩ : ∃ N : Nat, v = N := ⟨v.toNat, by simp at hm; omega⟩
  have hN : N ≤ 8 := by simp at hm; omega
  have hE1 : w1.heap[w.heap.size]? = some (.cells #[] 3 (0, 0)) := (hg1.block _ (by omega) (fun e => by cases e; omega)).trans ((hgB.block _ (by omega) (by simp)).trans hE)
  have hG1 : Gr w w1 (some rb) := (hA.trans0 hgB).trans hg1 (fun r e => .inl e)
  have hL0 : Lst w1 w.heap.size w1.heap.size [] (some ⟨w.heap.size, 0, none⟩) 0 0 := Lst.empty hG1.size (Nat.le_refl _) hE1
  have HR1 := Lib.hid hr1
  clear hA hR0 hE hE1 hm hg1 hR hr1 hIB
  go_wp2_with fail
  go_loopw [3, 4] (fun x i wr => ∃ (l : List Int) (ao : Option Addr) (n cap m : Nat), x = .slice ao n cap ∧ i = .int .i64 m ∧ n + m = N ∧ Lst wr w.heap.size w1.heap.size l ao n cap ∧ Gr w wr (some rb) ∧ Rd wr rb (P + 1 + n) ∧ w1.heap.size ≤ wr.heap.size) (fun _ i _ => (intOf i).toNat)
  case atStart => exact ⟨[], _, 0, 0, N, rfl, rfl, by omega, hL0, hG1, HR1.out, Nat.le_refl _⟩
  case round =>
    obtain ⟨l, ao, n, cap, m, rfl, rfl, hnm, hL, hG, hRr, hsz⟩ := hrel
    have hll := hL.1
    have HL := Lib.hid hL
    have HG := Lib.hid hG
    clear hL hL0 hG1
    by_cases hm0 : m = 0
    · subst hm0
      have hcap := HL.out.le_cap
      go_wp2_with fail
      go_ret
      subst hll
      exact ⟨l, ao, cap, rfl, HL.out.at, hcap, by omega, HG.out, hRr.mono (by omega)⟩
    · have hd : decide ((0 : Int) < (m : Int)) = true := decide_eq_true (by omega)
      have HRr := Lib.hid hRr
      clear hRr
      go_wp2_with fail
      generalize hwB : World.alloc wr _ = wB
      have hgB : Gr wr wB none := by rw [← hwB]; exact (Gr.refl _ _).alloc _
      have hIB : InAt wB (fun b _ => b ≠ rb) [0, 1, 0, 1, -1, 2] (some ⟨wr.heap.size, 0, none⟩) := by rw [← hwB]; exact inAt_lit wr rb HRr.out.lt [0, 1, 0, 1, -1, 2] #[.int .i64 0, .int .i64 1, .int .i64 0, .int .i64 1, .int .i64 (-1), .int .i64 2] rfl _
      clear hwB
      refine (num_any rb (P + 1 + n) [0, 1, 0, 1, -1, 2] 6 rfl _ _ _ (HRr.out.gr0 hgB) (by omega) hIB (by omega) (by omega)).mono ?_
      rintro e w2 ⟨x, hx, rfl, hg2, hr2⟩
      have hs2 : wr.heap.size ≤ w2.heap.size := Nat.le_trans hgB.size hg2.size
      have HL2 := Lib.hid ((HL.out.gr hgB).gr2 hg2 (fun r e => by cases e; omega))
      have HG2 := Lib.hid ((HG.out.trans0 hgB).trans hg2 (fun r e => .inl e))
      have HR2 := Lib.hid hr2
      clear hx hg2 hr2 hIB hgB
      go_wp2_with (at_builtin; refine app_l2 w2 _ rfl (.tmp 13) (.tmp 17) rfl w.heap.size w1.heap.size ao cap n _ x rfl HL2.out ((Gr.refl _ _).alloc _) w2.heap.size 1 rfl (cell_of_row _ _ _ _ _ _ (heap1_0 _ _)) (by omega) (by omega) ?_; rintro g cap2 w4 hL4 hg4)
      have hown := HL2.out.own
      have hG4 : Gr w w4 (some rb) := (HG2.out.alloc _).trans hg4 (fun r e => .inr (hown r e).1)
      have hR4 : Rd w4 rb (P + 1 + n + 1) := (HR2.out.gr0 ((Gr.refl _ none).alloc _)).far hg4 (fun r e => by have := (hown r e).1; omega)
      have hs4 := hg4.size
      simp only [World.size_alloc] at hs4
      go_roundw
      case rel => exact ⟨l ++ [x], some ⟨g, 0, none⟩, n + 1, cap2, m - 1, rfl, by go_num, by omega, hL4, hG4, hR4.mono (by omega), by omega⟩
      case measure => simp [intOf]; omega
theorem runD_ret {R : Ending → World → Prop} {tmps : Array Value} {u : World} {b : Nat} {x0 x1 : Value} (hz : Zp u b x0 x1) {v0 v1 v3 v4 : Value} (ht : tmps.getD 2 undef = .pointer (some ⟨b, 0, none⟩)) (h3 : tmps.getD 3 undef = v3) (h4 : tmps.getD 4 undef = v4) (h : R (.returned (.tuple #[.agg #[v0, v1], v3, v4])) (put2 u b v0 v1)) :
    bodyPost Try.prog Try.f19 R .ret { tmps := tmps, defers := [] } (put2 u b v0 v1) := by
  obtain ⟨c0, c1⟩ := hz.put2 v0 v1
  generalize put2 u b v0 v1 = W at *
  have ht' : tmps[2]?.getD undef = .pointer (some ⟨b, 0, none⟩) := by simpa using ht
  have h3' : tmps[3]?.getD undef = v3 := by simpa using h3
  have h4' : tmps[4]?.getD undef = v4 := by simpa using h4
  refine bodyPost_ret (v := .tuple #[.agg #[v0, v1], v3, v4]) ?_ rfl h
  simp [results, Try.results19, go_sem, ht', h3', h4', c0, c1]
set_option maxRecDepth 100000 in
set_option maxHeartbeats 1000000 in
theorem runD_any (a : Option Addr) (n c : Nat) (w : World) (h : BytesIn w a n) (hc : n ≤ c) (hn : n ≤ 100000000) : Calls Try.prog 19 #[.slice a n c] w (DrawnC w) := by
  have hZ := Zp.new w (.slice none 0 0) (.slice none 0 0) 26
  have hA : Gr w (w.alloc (.cells #[.slice none 0 0, .slice none 0 0] 26)) none := (Gr.refl _ _).alloc _
  have hBy := h.gr0 hA
  go_enter Try.func19, Try.ntmps19
  go_wp2_with fail
  refine (open_any a n c _ hBy hc hn).mono ?_
  rintro e w1 ⟨rb, rfl, hR1, hrb, hg1⟩
  have hrw : w.heap.size < rb := by simp at hrb; omega
  have hZ1 := hZ.gr hg1 (by simp)
  have hG1 := hA.trans0 hg1
  have hlt1 := hR1.lt
  clear hZ hA hBy h hg1 hrb
  go_wp2_with fail
  refine (l2Branch_any rb 0 w1 hR1 (by omega)).mono ?_
  rintro e w2 ⟨p, at', ab, ct, cb, rfl, hT2, hB2, ht2, hc2, hg2, hr2⟩
  have hZ2 := hZ1.gr hg2 (by simp; omega)
  have hG2 := hG1.trans hg2 (fun r e => .inr (by cases e; omega))
  have hlt2 := hr2.lt
  clear hZ1 hG1 hg2 hR1
  go_wp2_with fail
  obtain ⟨wA, hwA⟩ : ∃ wA : World, wA = w2.alloc (.cells #[.slice at' p.types.length ct, .slice ab p.body.length cb] 26) := ⟨_, rfl⟩
  have hgA : Gr w2 wA none := by rw [hwA]; exact (Gr.refl _ _).alloc _
  have hP0 : Zp wA w2.heap.size (.slice at' p.types.length ct) (.slice ab p.body.length cb) := by rw [hwA]; exact Zp.new _ _ _ _
  rw [← hwA]
  have hlA : w2.heap.size < wA.heap.size := hP0.lt
  have hZA := hZ2.gr hgA (by simp)
  have hGA := hG2.trans0 hgA
  have hTA := hT2.gr0 hgA
  have hBA := hB2.gr0 hgA
  have hrA := hr2.gr0 hgA
  clear hwA hgA hZ2 hG2 hT2 hB2 hr2
  refine (l2Choices_any rb 500 wA hrA (by omega)).mono ?_
  rintro e w3 ⟨cs, ac, cc, rfl, hC3, hcc, hc8, hg3, hr3⟩
  have hs3 : wA.heap.size ≤ w3.heap.size := hg3.size
  have HZ := Lib.hid (hZA.gr hg3 (by simp; omega))
  have HG := Lib.hid (hGA.trans hg3 (fun r e => .inr (by cases e; omega)))
  have HP := Lib.hid (hP0.gr hg3 (by simp; omega))
  have HT := Lib.hid (InAt.gr hg3 (fun b _ hb e => by cases e; unfold New at hb; omega) hTA)
  have HB := Lib.hid (hBA.far hg3 (fun r e => by cases e; exact hlt1))
  have HC := Lib.hid hC3
  clear hZA hGA hTA hBA hrA hP0 hC3 hg3
  go_upto_region 4 with fail
  refine wp_region_held_drew (S := fun w' => Gr w w' none ∧ w'.cell? ⟨w2.heap.size, 0, none⟩ = some (.slice at' p.types.length ct) ∧ w'.cell? ⟨w2.heap.size, 1, none⟩ = some (.slice ab p.body.length cb)) (by kernel_rfl) (⟨HG.out.drew, HP.out.1, HP.out.2.1⟩) (fun hHeld => ?_)
  refine wpAnyH_take (i := 0) (v := ?_) rfl (by kernel_rfl) (by kernel_rfl) (by kernel_rfl) (fun _ _ _ h => h) (Or.inl ⟨by rfl, ?_⟩) hHeld ?_
  rotate_left
  focus (intro wq hq; obtain ⟨_, k0, k1⟩ := hq; go_simp; try with_reducible rfl)
  simp only [Act.put, List.getElem_toArray, List.getElem_cons_zero, List.setIfInBounds_toArray, List.set_cons_zero, List.set_cons_succ]
  refine wpAnyH_take (i := 1) (v := ?_) rfl (by kernel_rfl) (by kernel_rfl) (by kernel_rfl) (fun _ _ _ h => h) (Or.inl ⟨by rfl, ?_⟩) hHeld ?_
  rotate_left
  focus (intro wq hq; clear hq; go_simp; try with_reducible rfl)
  simp only [Act.put, List.getElem_toArray, List.getElem_cons_succ, List.getElem_cons_zero, List.setIfInBounds_toArray, List.set_cons_zero, List.set_cons_succ]
  refine wpAnyH_take (i := 2) (v := ?_) rfl (by kernel_rfl) (by kernel_rfl) (by kernel_rfl) (fun _ _ _ h => h) (Or.inl ⟨by rfl, ?_⟩) hHeld ?_
  rotate_left
  focus (intro wq hq; clear hq; go_simp; try with_reducible rfl)
  simp only [Act.put, List.getElem_toArray, List.getElem_cons_succ, List.getElem_cons_zero, List.setIfInBounds_toArray, List.set_cons_zero, List.set_cons_succ]
  refine wpAnyH_ready (rs := [3]) (by kernel_rfl) (by simp) ?_
  refine AllReadyH.cons rfl (fun K hK => ?_) AllReadyH.nil
  go_simp
  try dsimp only
  refine hK.out _ _ (⟨Gr.alloc hHeld.1 _, ((Gr.refl _ none).alloc _).cell hHeld.2.1 (by simp), ((Gr.refl _ none).alloc _).cell hHeld.2.2 (by simp)⟩) (fun hHeld => ?_)
  clear hK K
  try simp only [Act.put, List.getElem_toArray, List.getElem_cons_succ, List.getElem_cons_zero, List.setIfInBounds_toArray, List.set_cons_zero, List.set_cons_succ]
  refine wpAnyH_ready (rs := [4]) (by kernel_rfl) (by simp) ?_
  refine AllReadyH.cons rfl (fun K hK => ?_) AllReadyH.nil
  go_simp
  refine (num_any rb 510 [100, 50, 5, 0, 1001, -1] 6 rfl _ _ _ (hr3.gr0 ((Gr.refl _ none).drew.alloc _)) (by omega) (inAt_lit _ rb (by simp; omega) _ _ rfl _) (by omega) (by omega)).mono ?_
  rintro e w5 ⟨v5, hm5, rfl, hg5, hr5⟩
  have HZ5 := Lib.hid ((HZ.out.gr ((Gr.refl w3 none).drew.alloc _) (by simp)).gr hg5 (by simp; omega))
  try dsimp only
  refine hK.out _ _ (⟨Gr.trans hHeld.1 hg5 (fun r e => .inr (by cases e; omega)), Gr.cell hg5 hHeld.2.1 (by simp; omega), Gr.cell hg5 hHeld.2.2 (by simp; omega)⟩) (fun hHeld => ?_)
  clear hK K
  try simp only [Act.put, List.getElem_toArray, List.getElem_cons_succ, List.getElem_cons_zero, List.setIfInBounds_toArray, List.set_cons_zero, List.set_cons_succ]
  refine wpAnyH_ready (rs := [5]) (by kernel_rfl) (by simp) ?_
  refine AllReadyH.cons rfl (fun K hK => ?_) AllReadyH.nil
  obtain ⟨z0, z1, zf⟩ := HZ5.out
  go_simp
  try dsimp only
  refine hK.out _ _ (⟨put2_gr hHeld.1 (Nat.le_refl _), by rw [World.cell?_setCell_other _ _ _ _ (by simp <;> omega), World.cell?_setCell_other _ _ _ _ (by simp <;> omega)]; exact hHeld.2.1, by rw [World.cell?_setCell_other _ _ _ _ (by simp <;> omega), World.cell?_setCell_other _ _ _ _ (by simp <;> omega)]; exact hHeld.2.2⟩) (fun hHeld => ?_)
  clear hK K
  try simp only [Act.put, List.getElem_toArray, List.getElem_cons_succ, List.getElem_cons_zero, List.setIfInBounds_toArray, List.set_cons_zero, List.set_cons_succ]
  refine wpAnyH_take (i := 6) (v := ?_) rfl (by kernel_rfl) (by kernel_rfl) (by kernel_rfl) (fun _ _ _ h => h) (Or.inl ⟨by rfl, ?_⟩) hHeld ?_
  rotate_left
  focus (intro wq hq; clear hq; go_simp; try with_reducible rfl)
  simp only [Act.put, List.getElem_toArray, List.getElem_cons_succ, List.getElem_cons_zero, List.setIfInBounds_toArray, List.set_cons_zero, List.set_cons_succ]
  refine wpAnyH_take (i := 7) (v := ?_) rfl (by kernel_rfl) (by kernel_rfl) (by kernel_rfl) (fun _ _ _ h => h) (Or.inl ⟨by rfl, ?_⟩) hHeld ?_
  rotate_left
  focus (intro wq hq; clear hq; go_simp; try with_reducible rfl)
  simp only [Act.put, List.getElem_toArray, List.getElem_cons_succ, List.getElem_cons_zero, List.setIfInBounds_toArray, List.set_cons_zero, List.set_cons_succ]
  refine wpAnyH_done (by kernel_rfl) ?_ _
  have hT5 := InAt.gr hg5 (fun b _ hb e => by cases e; unfold New at hb; omega) (HT.out.gr0 ((Gr.refl w3 none).drew.alloc _))
  have hC5 := InAt.gr hg5 (fun b _ hb e => by cases e; unfold New at hb; omega) (HC.out.gr0 ((Gr.refl w3 none).drew.alloc _))
  have hB5 := (HB.out.gr0 ((Gr.refl w3 none).drew.alloc _)).far hg5 (fun r e => by cases e; exact hlt1)
  obtain ⟨z0, z1, zf⟩ := HZ5.out
  have HH := Lib.hid hHeld
  clear hHeld
  go_wp2_with fail
  (try simp only [Exit.inBlock, Exit.then])
  refine runD_ret (b := w.heap.size) HZ5.out rfl rfl rfl ?_
  exact ⟨p, _, _, cs, ac, cc, v5, rfl, PrAt.put (Nat.le_refl _) (by omega) hT5 hB5 ht2 hc2 rfl rfl, (InAt.put2 hC5 (by omega)).mono (fun k _ hk => by unfold New at *; omega) (fun _ _ _ _ h => h), hcc, hc8, by simp at hm5; omega, by simp at hm5; omega, HH.out.1⟩
end Go.Proofs.Ytadidppbhpdnkaa

/- Walks of the drawn statements, weakly: some statement or list in new memory, few picks. -/
/- Walks of a drawn program, weakly: some program in new memory. -/
import Derived.Test.YtadidppbhpdnkaaB8

namespace Go.Proofs.Ytadidppbhpdnkaa

open Go.RowKit

theorem slAt_rows {w : World} {base : Nat} {D : Nat → Nat → Prop} (hb : base ≤ w.heap.size) (hD : ∀ b o, D b o → base ≤ b) (l : List St) (rows : List (List Value)) (cs : Array Value) (hc : cs.toList = rows.flatten) (hl : rows.length = l.length) (h : ∀ i (hi : i < l.length), StRow w D l[i] (rows[i]'(by omega))) :
    SlAt (w.alloc (.cells cs 96)) (New base) l (some ⟨w.heap.size, 0, none⟩) := by
  have hlen : ∀ r ∈ rows, r.length = 6 := fun r hr => by
    obtain ⟨k, hk, rfl⟩ := List.getElem_of_mem hr
    exact (h k (by omega)).len
  refine SlAt.of fun i hi => ?_
  obtain ⟨h1, h2, at', ct, ae, ce, hr, h3, h4⟩ := h i hi
  have hcell : ∀ j v, (rows[i]'(by omega))[j]? = some v → (w.alloc (.cells cs 96)).cell? ⟨w.heap.size, 0 + i * 6 + j, none⟩ = some v := by
    intro j v hv
    rw [cell_of_row _ _ _ _ _ _ (heap1_0 _ _), Nat.zero_add, ← Array.getElem?_toList, hc]
    exact flatten_get rows hlen i (by omega) j v hv
  rw [hr] at hcell
  have mv : ∀ l a, SlAt w D l a → SlAt (w.alloc (.cells cs 96)) (New base) l a := fun l a hl => (hl.gr0 ((Gr.refl _ none).alloc _)).sub hD
  exact StAt.into ⟨hb, h1, h2, at', ct, ae, ce, hcell 0 _ rfl, hcell 1 _ rfl, hcell 2 _ rfl, hcell 3 _ rfl, hcell 4 _ rfl, hcell 5 _ rfl, mv _ _ h3, mv _ _ h4⟩
/-- A drawn statement: at most m within it, at most c picks. -/
def OneR (rb P c m : Nat) (w : World) (e : Ending) (w' : World) : Prop := ∃ (st : St) (r : List Value), e = .returned (.agg r.toArray) ∧ StRow w' (New w.heap.size) st r ∧ Gr w w' (some rb) ∧ Rd w' rb (P + c) ∧ st.inner ≤ m
/-- A drawn list. -/
def SomeR (rb P c m : Nat) (w : World) (e : Ending) (w' : World) : Prop := ∃ (l : List St) (ao : Option Addr) (cap : Nat), e = .returned (.slice ao l.length cap) ∧ SlAt w' (New w.heap.size) l ao ∧ Gr w w' (some rb) ∧ Rd w' rb (P + c) ∧ St.count l ≤ m
theorem oneR_simple {rb P c m : Nat} {w w1 : World} (op x y n : Int) (hrb : rb < w.heap.size) (hg : Gr w w1 (some rb)) (hr : Rd w1 rb (P + c)) (z0 z1 z2 z3 z4 z5 : Value) (c' : Nat) (hc : c ≤ c') :
    OneR rb P c' m w (.returned (.agg #[.int .i64 op, .int .i64 x, .int .i64 y, .int .i64 n, .slice none 0 0, .slice none 0 0])) (put6 w1 w.heap.size z0 z1 z2 z3 z4 z5) := by
  have hp := put6_own w1 w.heap.size z0 z1 z2 z3 z4 z5
  exact ⟨.mk op x y n [] [], _, rfl, ⟨by simp [St.thn, maxLen], by simp [St.els, maxLen], none, 0, none, 0, rfl, by simp [St.thn, SlAt], by simp [St.els, SlAt]⟩, hg.trans hp (fun r e => .inr (by cases e; exact Nat.le_refl _)), (hr.far hp (fun r e => by cases e; exact hrb)).mono (by omega), by simp [St.inner, St.count]⟩
def cOne : Nat → Nat | 0 => 4 | 1 => 17 | _ => 43
def mOne : Nat → Nat | 0 => 0 | 1 => 4 | _ => 12
def OneC (d : Nat) : Prop := ∀ (rb P : Nat) (tv : Value) (w : World), Rd w rb P → P + 1000 * d ≤ 10000 → Calls Try.prog 102 #[.pointer (some ⟨rb, 0, none⟩), tv, .int .i64 d] w (OneR rb P (cOne d) (mOne d) w)
def SomeC (d : Nat) : Prop := ∀ (rb P n : Nat) (tv : Value) (w : World), Rd w rb P → P + 1000 * d + 500 ≤ 10000 → n ≤ 8 → Calls Try.prog 94 #[.pointer (some ⟨rb, 0, none⟩), tv, .int .i64 d, .int .i64 n] w (SomeR rb P (1 + n * cOne d) (1 + n * (1 + mOne d)) w)
/-- The cells of the result. -/
def Zs (w1 : World) (b : Nat) : Prop := w1.cell? ⟨b, 0, none⟩ = some (.int .i64 0) ∧ w1.cell? ⟨b, 1, none⟩ = some (.int .i64 0) ∧ w1.cell? ⟨b, 2, none⟩ = some (.int .i64 0) ∧ w1.cell? ⟨b, 3, none⟩ = some (.int .i64 0) ∧ w1.cell? ⟨b, 4, none⟩ = some (.slice none 0 0) ∧ w1.cell? ⟨b, 5, none⟩ = some (.slice none 0 0) ∧ ∀ o, w1.frozen? ⟨b, o, none⟩ = false
theorem Zs.new (w : World) : Zs (w.alloc (.cells #[.int .i64 0, .int .i64 0, .int .i64 0, .int .i64 0, .slice none 0 0, .slice none 0 0] 96)) w.heap.size :=
  ⟨cell_of_row _ _ _ _ _ _ (heap1_0 _ _), cell_of_row _ _ _ _ _ _ (heap1_0 _ _), cell_of_row _ _ _ _ _ _ (heap1_0 _ _), cell_of_row _ _ _ _ _ _ (heap1_0 _ _), cell_of_row _ _ _ _ _ _ (heap1_0 _ _), cell_of_row _ _ _ _ _ _ (heap1_0 _ _), frz_new (heap1_0 _ _)⟩
theorem Zs.gr {w w' : World} {b : Nat} {row : Option Nat} (h : Zs w b) (hg : Gr w w' row) (hr : row ≠ some b) : Zs w' b := by
  obtain ⟨h0, h1, h2, h3, h4, h5, hf⟩ := h
  exact ⟨hg.cell h0 hr, hg.cell h1 hr, hg.cell h2 hr, hg.cell h3 hr, hg.cell h4 hr, hg.cell h5 hr, fun o => (hg.frozen (p := ⟨b, o, none⟩) (show b < w.heap.size from lt_of_cell h0) hr).trans (hf o)⟩
theorem Zs.put6 {u : World} {b : Nat} (h : Zs u b) (v0 v1 v2 v3 v4 v5 : Value) : (put6 u b v0 v1 v2 v3 v4 v5).cell? ⟨b, 0, none⟩ = some v0 ∧ (put6 u b v0 v1 v2 v3 v4 v5).cell? ⟨b, 1, none⟩ = some v1 ∧ (put6 u b v0 v1 v2 v3 v4 v5).cell? ⟨b, 2, none⟩ = some v2 ∧ (put6 u b v0 v1 v2 v3 v4 v5).cell? ⟨b, 3, none⟩ = some v3 ∧ (put6 u b v0 v1 v2 v3 v4 v5).cell? ⟨b, 4, none⟩ = some v4 ∧ (put6 u b v0 v1 v2 v3 v4 v5).cell? ⟨b, 5, none⟩ = some v5 := by
  obtain ⟨h0, h1, h2, h3, h4, h5, _⟩ := h
  unfold Go.Proofs.Ytadidppbhpdnkaa.put6
  refine ⟨?_, ?_, ?_, ?_, ?_, ?_⟩
  · rw [World.cell?_setCell_other _ _ _ _ (by simp), World.cell?_setCell_other _ _ _ _ (by simp), World.cell?_setCell_other _ _ _ _ (by simp), World.cell?_setCell_other _ _ _ _ (by simp), World.cell?_setCell_other _ _ _ _ (by simp)]
    exact World.cell?_setCell_same _ _ _ h0
  · rw [World.cell?_setCell_other _ _ _ _ (by simp), World.cell?_setCell_other _ _ _ _ (by simp), World.cell?_setCell_other _ _ _ _ (by simp), World.cell?_setCell_other _ _ _ _ (by simp)]
    refine World.cell?_setCell_same' _ _ _ ?_
    rw [World.cell?_setCell_other _ _ _ _ (by simp), h1]; rfl
  · rw [World.cell?_setCell_other _ _ _ _ (by simp), World.cell?_setCell_other _ _ _ _ (by simp), World.cell?_setCell_other _ _ _ _ (by simp)]
    refine World.cell?_setCell_same' _ _ _ ?_
    rw [World.cell?_setCell_other _ _ _ _ (by simp), World.cell?_setCell_other _ _ _ _ (by simp), h2]; rfl
  · rw [World.cell?_setCell_other _ _ _ _ (by simp), World.cell?_setCell_other _ _ _ _ (by simp)]
    refine World.cell?_setCell_same' _ _ _ ?_
    rw [World.cell?_setCell_other _ _ _ _ (by simp), World.cell?_setCell_other _ _ _ _ (by simp), World.cell?_setCell_other _ _ _ _ (by simp), h3]; rfl
  · rw [World.cell?_setCell_other _ _ _ _ (by simp)]
    refine World.cell?_setCell_same' _ _ _ ?_
    rw [World.cell?_setCell_other _ _ _ _ (by simp), World.cell?_setCell_other _ _ _ _ (by simp), World.cell?_setCell_other _ _ _ _ (by simp), World.cell?_setCell_other _ _ _ _ (by simp), h4]; rfl
  · refine World.cell?_setCell_same' _ _ _ ?_
    rw [World.cell?_setCell_other _ _ _ _ (by simp), World.cell?_setCell_other _ _ _ _ (by simp), World.cell?_setCell_other _ _ _ _ (by simp), World.cell?_setCell_other _ _ _ _ (by simp), World.cell?_setCell_other _ _ _ _ (by simp), h5]; rfl
theorem one_ret {R : Ending → World → Prop} {tmps : Array Value} {u : World} {b : Nat} (hz : Zs u b) {v0 v1 v2 v3 v4 v5 : Value} (ht : tmps.getD 6 undef = .pointer (some ⟨b, 0, none⟩)) (h : R (.returned (.agg #[v0, v1, v2, v3, v4, v5])) (Go.Proofs.Ytadidppbhpdnkaa.put6 u b v0 v1 v2 v3 v4 v5)) :
    bodyPost Try.prog Try.f102 R .ret { tmps := tmps, defers := [] } (Go.Proofs.Ytadidppbhpdnkaa.put6 u b v0 v1 v2 v3 v4 v5) := by
  obtain ⟨c0, c1, c2, c3, c4, c5⟩ := hz.put6 v0 v1 v2 v3 v4 v5
  generalize Go.Proofs.Ytadidppbhpdnkaa.put6 u b v0 v1 v2 v3 v4 v5 = W at *
  refine bodyPost_ret (v := .agg #[v0, v1, v2, v3, v4, v5]) ?_ rfl h
  have ht' : tmps[6]?.getD undef = .pointer (some ⟨b, 0, none⟩) := by simpa using ht
  simp [results, Try.results102, go_sem, ht', c0, c1, c2, c3, c4, c5]
theorem one_retA {R : Ending → World → Prop} {tmps : Array Value} {u : World} {b : Nat} {O : Obj} (hz : Zs u b) {v0 v1 v2 v3 v4 v5 : Value} (ht : tmps.getD 6 undef = .pointer (some ⟨b, 0, none⟩)) (h : R (.returned (.agg #[v0, v1, v2, v3, v4, v5])) ((Go.Proofs.Ytadidppbhpdnkaa.put6 u b v0 v1 v2 v3 v4 v5).alloc O)) :
    bodyPost Try.prog Try.f102 R .ret { tmps := tmps, defers := [] } ((Go.Proofs.Ytadidppbhpdnkaa.put6 u b v0 v1 v2 v3 v4 v5).alloc O) := by
  obtain ⟨c0, c1, c2, c3, c4, c5⟩ := hz.put6 v0 v1 v2 v3 v4 v5
  have hA : Gr (Go.Proofs.Ytadidppbhpdnkaa.put6 u b v0 v1 v2 v3 v4 v5) ((Go.Proofs.Ytadidppbhpdnkaa.put6 u b v0 v1 v2 v3 v4 v5).alloc O) none := (Gr.refl _ _).alloc _
  replace c0 := hA.cell c0 (by simp)
  replace c1 := hA.cell c1 (by simp)
  replace c2 := hA.cell c2 (by simp)
  replace c3 := hA.cell c3 (by simp)
  replace c4 := hA.cell c4 (by simp)
  replace c5 := hA.cell c5 (by simp)
  clear hA
  generalize (Go.Proofs.Ytadidppbhpdnkaa.put6 u b v0 v1 v2 v3 v4 v5).alloc O = W at *
  refine bodyPost_ret (v := .agg #[v0, v1, v2, v3, v4, v5]) ?_ rfl h
  have ht' : tmps[6]?.getD undef = .pointer (some ⟨b, 0, none⟩) := by simpa using ht
  simp [results, Try.results102, go_sem, ht', c0, c1, c2, c3, c4, c5]
theorem slAt_rows6 {u : World} {b : Nat} (v0 v1 v2 v3 v4 v5 : Value) (hb : b < u.heap.size) (l : List St) (rows : List (List Value)) (cs : Array Value) (hc : cs.toList = rows.flatten) (hl : rows.length = l.length) (h : ∀ i (hi : i < l.length), StRow u (New (b + 1)) l[i] (rows[i]'(by omega))) :
    SlAt ((Go.Proofs.Ytadidppbhpdnkaa.put6 u b v0 v1 v2 v3 v4 v5).alloc (.cells cs 96)) (New b) l (some ⟨u.heap.size, 0, none⟩) := by
  have hs : (Go.Proofs.Ytadidppbhpdnkaa.put6 u b v0 v1 v2 v3 v4 v5).heap.size = u.heap.size := by simp [Go.Proofs.Ytadidppbhpdnkaa.put6, World.setCell]
  have := slAt_rows (w := Go.Proofs.Ytadidppbhpdnkaa.put6 u b v0 v1 v2 v3 v4 v5) (base := b) (D := New b) (by omega) (fun _ _ h => h) l rows cs hc hl (fun i hi => (h i hi).map fun l a h => SlAt.put6 h)
  rw [hs] at this
  exact this
set_option maxRecDepth 100000 in
set_option maxHeartbeats 16000000 in
theorem one_step (d : Nat) (hd : d ≤ 2) (hS : 0 < d → SomeC (d - 1)) (hO : 0 < d → OneC 0) : OneC d := by
  intro rb P tv w hR hP
  have hrb := hR.lt
  have HS := Lib.hid hS
  have HO := Lib.hid hO
  clear hS hO
  have hcd : 4 ≤ cOne d := by unfold cOne; split <;> omega
  have HCD := Lib.hid hcd
  clear hcd
  have hZ0 := Zs.new w
  have hA : Gr w (w.alloc (.cells #[.int .i64 0, .int .i64 0, .int .i64 0, .int .i64 0, .slice none 0 0, .slice none 0 0] 96)) (some rb) := (Gr.refl _ _).alloc _
  have hR0 := hR.gr0 ((Gr.refl _ none).alloc (.cells #[.int .i64 0, .int .i64 0, .int .i64 0, .int .i64 0, .slice none 0 0, .slice none 0 0] 96))
  go_enter Try.func102, Try.ntmps102
  go_wp2_with fail
  refine (pick_any rb P 2 _ hR0 (by omega) (by omega) (by omega)).mono ?_
  rintro e w1 ⟨v1, rfl, hv1, hv1', hg1, hr1⟩
  have hb1 : v1 < 2 := hv1' (by omega)
  have hG1 := hA.trans hg1 (fun r e => .inl e)
  have hZ1 := hZ0.gr hg1 (by simp; omega)
  clear hv1' hg1 hZ0 hA hR0 hR
  go_wp2_with fail
  have hA1 : ∀ o, Gr w1 (w1.alloc o) none := fun o => (Gr.refl _ _).alloc _
  refine (num_any rb (P + 1) [1, 2, 1, 4, 5] 5 rfl _ _ _ (hr1.gr0 (hA1 _)) (by omega) (inAt_lit w1 rb hr1.lt _ _ rfl _) (by omega) (by omega)).mono ?_
  rintro e w2 ⟨v2, hm2, rfl, hg2, hr2⟩
  have hG2 := (hG1.alloc _).trans hg2 (fun r e => .inl e)
  have hZ2 := (hZ1.gr (hA1 _) (by simp)).gr hg2 (by simp; omega)
  clear hm2 hg2 hZ1 hr1 hA1 hG1
  go_wp2_with fail
  refine (pick_any rb (P + 2) 11 _ hr2 (by omega) (by omega) (by omega)).mono ?_
  rintro e w3 ⟨v3, rfl, hv3, hv3', hg3, hr3⟩
  have hb3 : v3 < 11 := hv3' (by omega)
  have hG3 := hG2.trans hg3 (fun r e => .inl e)
  have hZ3 := hZ2.gr hg3 (by simp; omega)
  have HZ3 := Lib.hid hZ3
  have HG3 := Lib.hid hG3
  have hA3 : ∀ o, Gr w3 (w3.alloc o) none := fun o => (Gr.refl _ _).alloc _
  have HA3 := Lib.hid hA3
  clear hv3' hg3 hZ2 hr2 hG2 hZ3 hG3 hA3
  have hcases : v3 = 0 ∨ v3 = 1 ∨ v3 = 2 ∨ v3 = 3 ∨ v3 = 4 ∨ v3 = 5 ∨ v3 = 6 ∨ v3 = 7 ∨ v3 = 8 ∨ v3 = 9 ∨ v3 = 10 := by omega
  clear hv3 hb3
  rcases hcases with rfl | rfl | rfl | rfl | rfl | rfl | rfl | rfl | rfl | rfl | rfl
  · go_wp2_with fail
    refine (pick_any rb (P + 3) 10 _ hr3 (by omega) (by omega) (by omega)).mono ?_
    rintro e w4 ⟨v4, rfl, hv4, hv4', hg4, hr4⟩
    have HG4 := Lib.hid (HG3.out.trans hg4 (fun r e => .inl e))
    have HZ4 := Lib.hid (HZ3.out.gr hg4 (by simp; omega))
    clear hv4' hg4 hr3
    obtain ⟨z0, z1, z2, z3, z4, z5, zf⟩ := HZ4.out
    go_wp2_with fail
    refine bodyPost_ret (v := .agg #[.int .i64 1, .int .i64 0, .int .i64 0, .int .i64 v4, .slice none 0 0, .slice none 0 0]) (by simp [results, Try.results102, go_sem, z0, z1, z2, z3, z4, z5]) rfl ?_
    exact oneR_simple 1 0 0 v4 hrb HG4.out (show Rd w4 rb (P + 4) from hr4) _ _ _ _ _ _ _ (by have := HCD.out; omega)
  · go_wp2_with fail
    refine (pick_any rb (P + 3) 10 _ hr3 (by omega) (by omega) (by omega)).mono ?_
    rintro e w4 ⟨v4, rfl, hv4, hv4', hg4, hr4⟩
    have HG4 := Lib.hid (HG3.out.trans hg4 (fun r e => .inl e))
    have HZ4 := Lib.hid (HZ3.out.gr hg4 (by simp; omega))
    clear hv4' hg4 hr3
    obtain ⟨z0, z1, z2, z3, z4, z5, zf⟩ := HZ4.out
    go_wp2_with fail
    refine bodyPost_ret (v := .agg #[.int .i64 2, .int .i64 (1 + v1), .int .i64 0, .int .i64 v4, .slice none 0 0, .slice none 0 0]) (by simp [results, Try.results102, go_sem, z0, z1, z2, z3, z4, z5]) rfl ?_
    exact oneR_simple 2 (1 + v1) 0 v4 hrb HG4.out (show Rd w4 rb (P + 4) from hr4) _ _ _ _ _ _ _ (by have := HCD.out; omega)
  · obtain ⟨z0, z1, z2, z3, z4, z5, zf⟩ := HZ3.out
    go_wp2_with fail
    refine bodyPost_ret (v := .agg #[.int .i64 3, .int .i64 (1 + v1), .int .i64 (3 - (1 + v1)), .int .i64 0, .slice none 0 0, .slice none 0 0]) (by simp [results, Try.results102, go_sem, z0, z1, z2, z3, z4, z5]) rfl ?_
    exact oneR_simple 3 (1 + v1) (3 - (1 + v1)) 0 hrb HG3.out (show Rd w3 rb (P + 3) from hr3) _ _ _ _ _ _ _ (by have := HCD.out; omega)
  · obtain ⟨z0, z1, z2, z3, z4, z5, zf⟩ := HZ3.out
    go_wp2_with fail
    refine bodyPost_ret (v := .agg #[.int .i64 4, .int .i64 3, .int .i64 v2, .int .i64 0, .slice none 0 0, .slice none 0 0]) (by simp [results, Try.results102, go_sem, z0, z1, z2, z3, z4, z5]) rfl ?_
    exact oneR_simple 4 3 v2 0 hrb HG3.out (show Rd w3 rb (P + 3) from hr3) _ _ _ _ _ _ _ (by have := HCD.out; omega)
  · go_wp2_with fail
    refine (num_any rb (P + 3) [1, 2, 1, 5] 4 rfl _ _ _ (hr3.gr0 (HA3.out _)) (by omega) (inAt_lit w3 rb hr3.lt _ _ rfl _) (by omega) (by omega)).mono ?_
    rintro e w4 ⟨v4, hm4, rfl, hg4, hr4⟩
    have HG4 := Lib.hid ((HG3.out.alloc _).trans hg4 (fun r e => .inl e))
    have HZ4 := Lib.hid ((HZ3.out.gr (HA3.out _) (by simp)).gr hg4 (by simp; omega))
    clear hm4 hg4 hr3
    obtain ⟨z0, z1, z2, z3, z4, z5, zf⟩ := HZ4.out
    go_wp2_with fail
    refine bodyPost_ret (v := .agg #[.int .i64 5, .int .i64 4, .int .i64 v4, .int .i64 0, .slice none 0 0, .slice none 0 0]) (by simp [results, Try.results102, go_sem, z0, z1, z2, z3, z4, z5]) rfl ?_
    exact oneR_simple 5 4 v4 0 hrb HG4.out (show Rd w4 rb (P + 4) from hr4) _ _ _ _ _ _ _ (by have := HCD.out; omega)
  · go_wp2_with fail
    refine (num_any rb (P + 3) [1, 2, 1, 5] 4 rfl _ _ _ (hr3.gr0 (HA3.out _)) (by omega) (inAt_lit w3 rb hr3.lt _ _ rfl _) (by omega) (by omega)).mono ?_
    rintro e w4 ⟨v4, hm4, rfl, hg4, hr4⟩
    have HG4 := Lib.hid ((HG3.out.alloc _).trans hg4 (fun r e => .inl e))
    have HZ4 := Lib.hid ((HZ3.out.gr (HA3.out _) (by simp)).gr hg4 (by simp; omega))
    clear hm4 hg4 hr3
    obtain ⟨z0, z1, z2, z3, z4, z5, zf⟩ := HZ4.out
    go_wp2_with fail
    refine bodyPost_ret (v := .agg #[.int .i64 5, .int .i64 4, .int .i64 v4, .int .i64 0, .slice none 0 0, .slice none 0 0]) (by simp [results, Try.results102, go_sem, z0, z1, z2, z3, z4, z5]) rfl ?_
    exact oneR_simple 5 4 v4 0 hrb HG4.out (show Rd w4 rb (P + 4) from hr4) _ _ _ _ _ _ _ (by have := HCD.out; omega)
  · go_wp2_with fail
    refine (num_any rb (P + 3) [3, 4, 1, 2, 5] 5 rfl _ _ _ (hr3.gr0 (HA3.out _)) (by omega) (inAt_lit w3 rb hr3.lt _ _ rfl _) (by omega) (by omega)).mono ?_
    rintro e w4 ⟨v4, hm4, rfl, hg4, hr4⟩
    have HG4 := Lib.hid ((HG3.out.alloc _).trans hg4 (fun r e => .inl e))
    have HZ4 := Lib.hid ((HZ3.out.gr (HA3.out _) (by simp)).gr hg4 (by simp; omega))
    clear hm4 hg4 hr3
    obtain ⟨z0, z1, z2, z3, z4, z5, zf⟩ := HZ4.out
    go_wp2_with fail
    refine bodyPost_ret (v := .agg #[.int .i64 6, .int .i64 0, .int .i64 v4, .int .i64 0, .slice none 0 0, .slice none 0 0]) (by simp [results, Try.results102, go_sem, z0, z1, z2, z3, z4, z5]) rfl ?_
    exact oneR_simple 6 0 v4 0 hrb HG4.out (show Rd w4 rb (P + 4) from hr4) _ _ _ _ _ _ _ (by have := HCD.out; omega)
  · go_wp2_with fail
    refine (num_any rb (P + 3) [4, 1, 2, 5] 4 rfl _ _ _ (hr3.gr0 (HA3.out _)) (by omega) (inAt_lit w3 rb hr3.lt _ _ rfl _) (by omega) (by omega)).mono ?_
    rintro e w4 ⟨v4, hm4, rfl, hg4, hr4⟩
    have HG4 := Lib.hid ((HG3.out.alloc _).trans hg4 (fun r e => .inl e))
    have HZ4 := Lib.hid ((HZ3.out.gr (HA3.out _) (by simp)).gr hg4 (by simp; omega))
    clear hm4 hg4 hr3
    obtain ⟨z0, z1, z2, z3, z4, z5, zf⟩ := HZ4.out
    go_wp2_with fail
    refine bodyPost_ret (v := .agg #[.int .i64 7, .int .i64 v4, .int .i64 0, .int .i64 0, .slice none 0 0, .slice none 0 0]) (by simp [results, Try.results102, go_sem, z0, z1, z2, z3, z4, z5]) rfl ?_
    exact oneR_simple 7 v4 0 0 hrb HG4.out (show Rd w4 rb (P + 4) from hr4) _ _ _ _ _ _ _ (by have := HCD.out; omega)
  · obtain ⟨z0, z1, z2, z3, z4, z5, zf⟩ := HZ3.out
    go_wp2_with fail
    refine bodyPost_ret (v := .agg #[.int .i64 8, .int .i64 (1 + v1), .int .i64 0, .int .i64 0, .slice none 0 0, .slice none 0 0]) (by simp [results, Try.results102, go_sem, z0, z1, z2, z3, z4, z5]) rfl ?_
    exact oneR_simple 8 (1 + v1) 0 0 hrb HG3.out (show Rd w3 rb (P + 3) from hr3) _ _ _ _ _ _ _ (by have := HCD.out; omega)
  · by_cases h0 : d = 0
    · subst h0
      go_wp2_with fail
      refine (num_any rb (P + 3) [4, 1, 2] 3 rfl _ _ _ (hr3.gr0 (HA3.out _)) (by omega) (inAt_lit w3 rb hr3.lt _ _ rfl _) (by omega) (by omega)).mono ?_
      rintro e w4 ⟨v4, hm4, rfl, hg4, hr4⟩
      have HG4 := Lib.hid ((HG3.out.alloc _).trans hg4 (fun r e => .inl e))
      have HZ4 := Lib.hid ((HZ3.out.gr (HA3.out _) (by simp)).gr hg4 (by simp; omega))
      clear hm4 hg4 hr3
      obtain ⟨z0, z1, z2, z3, z4, z5, zf⟩ := HZ4.out
      go_wp2_with fail
      refine bodyPost_ret (v := .agg #[.int .i64 5, .int .i64 5, .int .i64 v4, .int .i64 0, .slice none 0 0, .slice none 0 0]) (by simp [results, Try.results102, go_sem, z0, z1, z2, z3, z4, z5]) rfl ?_
      exact oneR_simple 5 5 v4 0 hrb HG4.out (show Rd w4 rb (P + 4) from hr4) _ _ _ _ _ _ _ (by have := HCD.out; omega)
    · have hd0 : 0 < d := by omega
      have hdi : (0 : Int) < (d : Int) := by omega
      have hs := HS.out hd0
      have ho := HO.out hd0
      have HS' := Lib.hid hs
      have HO' := Lib.hid ho
      clear hs ho
      have hdd : (d : Int) - 1 = ((d - 1 : Nat) : Int) := by omega
      go_wp2_with fail
      refine (pick_any rb (P + 3) 3 _ hr3 (by omega) (by omega) (by omega)).mono ?_
      rintro e w4 ⟨v4, rfl, hv4, hv4', hg4, hr4⟩
      have HG4 := Lib.hid (HG3.out.trans hg4 (fun r e => .inl e))
      have HZ4 := Lib.hid (HZ3.out.gr hg4 (by simp; omega))
      clear hg4 hr3
      have hv4'' := hv4' (by omega)
      clear hv4'
      obtain ⟨k4, rfl⟩ : ∃ k4 : Nat, v4 = k4 := ⟨v4.toNat, by omega⟩
      have hk4 : k4 ≤ 2 := by omega
      have hq1 : 4 + (1 + k4 * cOne (d - 1)) + cOne 0 ≤ cOne d := by
        have hd12 : d = 1 ∨ d = 2 := by omega
        have hk : k4 = 0 ∨ k4 = 1 ∨ k4 = 2 := by omega
        rcases hd12 with rfl | rfl <;> rcases hk with rfl | rfl | rfl <;> decide
      have hq2 : 1 + k4 * (1 + mOne (d - 1)) + 1 ≤ mOne d := by
        have hd12 : d = 1 ∨ d = 2 := by omega
        have hk : k4 = 0 ∨ k4 = 1 ∨ k4 = 2 := by omega
        rcases hd12 with rfl | rfl <;> rcases hk with rfl | rfl | rfl <;> decide
      have hq3 : cOne d ≤ 43 := by unfold cOne; split <;> omega
      have hq4 : mOne d ≤ 12 := by unfold mOne; split <;> omega
      have HQ1 := Lib.hid hq1
      have HQ2 := Lib.hid hq2
      have hc5' : 1 + k4 * cOne (d - 1) ≤ 39 := by omega
      clear hq1 hq2 hq3
      go_wp2_with fail
      refine (HS'.out rb (P + 4) k4 tv w4 hr4 (by omega) (by omega)).mono ?_
      rintro e w5 ⟨L1, aL, cL, rfl, hl1, hg5, hr5, hc5⟩
      have hm1 : L1.length ≤ maxLen := by have := length_count L1; have := HQ2.out; unfold maxLen; omega
      have h45 : w4.heap.size ≤ w5.heap.size := hg5.size
      have h4 : w.heap.size + 1 ≤ w4.heap.size := lt_of_cell HZ4.out.1
      have HG5 := Lib.hid (HG4.out.trans hg5 (fun r e => .inl e))
      have HZ5 := Lib.hid (HZ4.out.gr hg5 (by simp; omega))
      have HL1 := Lib.hid hl1
      have HC5 := Lib.hid hc5
      clear hg5 hl1 hc5 hr4
      go_wp2_with fail
      refine (HO'.out rb (P + 4 + (1 + k4 * cOne (d - 1))) tv w5 hr5 (by omega)).mono ?_
      rintro e w6 ⟨st, r, rfl, hrow, hg6, hr6, hm6⟩
      have hrow' := hrow
      obtain ⟨qa, qb, at6, ct6, ae6, ce6, rfl, qc, qd⟩ := hrow
      clear qa qb qc qd
      have h56 : w5.heap.size ≤ w6.heap.size := hg6.size
      have hlt6 : w.heap.size < w6.heap.size := by omega
      have HG6 := Lib.hid (HG5.out.trans hg6 (fun r e => .inl e))
      have HL6 := Lib.hid (HL1.out.far hg6 (fun r e => by cases e; omega))
      have HR6 := Lib.hid hrow'
      have hZ7 := (HZ5.out.gr hg6 (by simp; omega)).gr ((Gr.refl w6 none).alloc (.cells #[.int .i64 st.op, .int .i64 st.x, .int .i64 st.y, .int .i64 st.n, .slice at6 st.thn.length ct6, .slice ae6 st.els.length ce6] 96)) (by simp)
      have HZ6 := Lib.hid (HZ5.out.gr hg6 (by simp; omega))
      have HM6 := Lib.hid hm6
      clear hrow' hg6 hm6 hr5
      obtain ⟨y0, y1, y2, y3, y4, y5, yf⟩ := HZ6.out
      obtain ⟨z0, z1, z2, z3, z4, z5, zf⟩ := hZ7
      go_wp2_with fail
      (try simp only [Exit.inBlock, Exit.then])
      refine one_retA (b := w.heap.size) HZ6.out rfl ?_
      exact ⟨.mk 9 0 0 0 L1 [st], _, rfl, ⟨hm1, by simp [St.els, maxLen], aL, cL, _, 1, rfl, (SlAt.put6 (HL6.out.sub fun b o hb => by unfold New at *; omega)).gr0 ((Gr.refl _ none).alloc _), slAt_rows6 _ _ _ _ _ _ hlt6 [st] [[.int .i64 st.op, .int .i64 st.x, .int .i64 st.y, .int .i64 st.n, .slice at6 st.thn.length ct6, .slice ae6 st.els.length ce6]] _ rfl rfl (fun i hi => by
        obtain rfl : i = 0 := by simp at hi; omega
        exact HR6.out.sub fun b o hb => by unfold New at *; omega)⟩, (HG6.out.trans (put6_own _ _ _ _ _ _ _ _) (fun r e => .inr (by cases e; exact Nat.le_refl _))).alloc _, ((hr6.far (put6_own _ _ _ _ _ _ _ _) (fun r e => by cases e; exact hrb)).gr0 ((Gr.refl _ none).alloc _)).mono (by have := HQ1.out; omega), by have := HC5.out; have := HQ2.out; have h0 := HM6.out; simp only [St.inner, St.count]; simp [mOne] at h0; omega⟩
  · by_cases h0 : d = 0
    · subst h0
      go_wp2_with fail
      refine (num_any rb (P + 3) [4, 1, 2] 3 rfl _ _ _ (hr3.gr0 (HA3.out _)) (by omega) (inAt_lit w3 rb hr3.lt _ _ rfl _) (by omega) (by omega)).mono ?_
      rintro e w4 ⟨v4, hm4, rfl, hg4, hr4⟩
      have HG4 := Lib.hid ((HG3.out.alloc _).trans hg4 (fun r e => .inl e))
      have HZ4 := Lib.hid ((HZ3.out.gr (HA3.out _) (by simp)).gr hg4 (by simp; omega))
      clear hm4 hg4 hr3
      obtain ⟨z0, z1, z2, z3, z4, z5, zf⟩ := HZ4.out
      go_wp2_with fail
      refine bodyPost_ret (v := .agg #[.int .i64 5, .int .i64 5, .int .i64 v4, .int .i64 0, .slice none 0 0, .slice none 0 0]) (by simp [results, Try.results102, go_sem, z0, z1, z2, z3, z4, z5]) rfl ?_
      exact oneR_simple 5 5 v4 0 hrb HG4.out (show Rd w4 rb (P + 4) from hr4) _ _ _ _ _ _ _ (by have := HCD.out; omega)
    · have hd0 : 0 < d := by omega
      have hdi : (0 : Int) < (d : Int) := by omega
      have ho := HO.out hd0
      have HO' := Lib.hid ho
      clear ho
      have hq1 : 3 + cOne 0 + cOne 0 ≤ cOne d := by
        have hd12 : d = 1 ∨ d = 2 := by omega
        rcases hd12 with rfl | rfl <;> decide
      have hq2 : 2 ≤ mOne d := by
        have hd12 : d = 1 ∨ d = 2 := by omega
        rcases hd12 with rfl | rfl <;> decide
      have HQ1 := Lib.hid hq1
      have HQ2 := Lib.hid hq2
      clear hq1 hq2
      go_wp2_with fail
      refine (HO'.out rb (P + 3) tv w3 hr3 (by omega)).mono ?_
      rintro e w5 ⟨s1, r1, rfl, hrow1, hg5, hr5, hm5⟩
      have hrow1' := hrow1
      obtain ⟨qa, qb, at5, ct5, ae5, ce5, rfl, qc, qd⟩ := hrow1
      clear qa qb qc qd
      have h3 : w.heap.size + 1 ≤ w3.heap.size := lt_of_cell HZ3.out.1
      have h35 : w3.heap.size ≤ w5.heap.size := hg5.size
      have HG5 := Lib.hid (HG3.out.trans hg5 (fun r e => .inl e))
      have HZ5 := Lib.hid (HZ3.out.gr hg5 (by simp; omega))
      have HR5 := Lib.hid hrow1'
      have HM5 := Lib.hid hm5
      clear hg5 hrow1' hm5 hr3
      go_wp2_with fail
      refine (HO'.out rb (P + 3 + cOne 0) tv w5 hr5 (by rw [show cOne 0 = 4 from rfl]; omega)).mono ?_
      rintro e w6 ⟨s2, r2, rfl, hrow2, hg6, hr6, hm6⟩
      have hrow2' := hrow2
      obtain ⟨qa, qb, at6, ct6, ae6, ce6, rfl, qc, qd⟩ := hrow2
      clear qa qb qc qd
      have h56 : w5.heap.size ≤ w6.heap.size := hg6.size
      have hlt6 : w.heap.size < w6.heap.size := by omega
      have HG6 := Lib.hid (HG5.out.trans hg6 (fun r e => .inl e))
      have HR51 := Lib.hid (HR5.out.far hg6 (fun r e => by cases e; omega))
      have HR6 := Lib.hid hrow2'
      have hZ7 := (HZ5.out.gr hg6 (by simp; omega)).gr ((Gr.refl w6 none).alloc (.cells #[.int .i64 s1.op, .int .i64 s1.x, .int .i64 s1.y, .int .i64 s1.n, .slice at5 s1.thn.length ct5, .slice ae5 s1.els.length ce5, .int .i64 s2.op, .int .i64 s2.x, .int .i64 s2.y, .int .i64 s2.n, .slice at6 s2.thn.length ct6, .slice ae6 s2.els.length ce6] 96)) (by simp)
      have HZ6 := Lib.hid (HZ5.out.gr hg6 (by simp; omega))
      have HM6 := Lib.hid hm6
      clear hrow2' hg6 hm6 hr5
      obtain ⟨y0, y1, y2, y3, y4, y5, yf⟩ := HZ6.out
      obtain ⟨z0, z1, z2, z3, z4, z5, zf⟩ := hZ7
      go_wp2_with fail
      (try simp only [Exit.inBlock, Exit.then])
      refine one_retA (b := w.heap.size) HZ6.out rfl ?_
      exact ⟨.mk 10 0 0 0 [s1, s2] [], _, rfl, ⟨by simp [St.thn, maxLen], by simp [St.els, maxLen], _, 2, none, 0, rfl, slAt_rows6 _ _ _ _ _ _ hlt6 [s1, s2] [[.int .i64 s1.op, .int .i64 s1.x, .int .i64 s1.y, .int .i64 s1.n, .slice at5 s1.thn.length ct5, .slice ae5 s1.els.length ce5], [.int .i64 s2.op, .int .i64 s2.x, .int .i64 s2.y, .int .i64 s2.n, .slice at6 s2.thn.length ct6, .slice ae6 s2.els.length ce6]] _ rfl rfl (fun i hi => by
        have hi2 : i = 0 ∨ i = 1 := by simp at hi; omega
        rcases hi2 with rfl | rfl
        · exact HR51.out.sub fun b o hb => by unfold New at *; omega
        · exact HR6.out.sub fun b o hb => by unfold New at *; omega), by simp [St.els, SlAt]⟩, (HG6.out.trans (put6_own _ _ _ _ _ _ _ _) (fun r e => .inr (by cases e; exact Nat.le_refl _))).alloc _, ((hr6.far (put6_own _ _ _ _ _ _ _ _) (fun r e => by cases e; exact hrb)).gr0 ((Gr.refl _ none).alloc _)).mono (by have := HQ1.out; omega), by have := HQ2.out; have h0 := HM5.out; have h1 := HM6.out; simp only [St.inner, St.count]; simp [mOne] at h0 h1; omega⟩
set_option maxRecDepth 100000 in
set_option maxHeartbeats 4000000 in
theorem some_step (d : Nat) (hd : d ≤ 2) (hO : OneC d) : SomeC d := by
  intro rb P n tv w hR hP hn
  have hrb := hR.lt
  have HO := Lib.hid hO
  have hc43 : cOne d ≤ 43 := by unfold cOne; split <;> omega
  have hm12 : mOne d ≤ 12 := by unfold mOne; split <;> omega
  clear hO
  go_enter Try.func94, Try.ntmps94
  go_wp2_with fail
  refine (pick_any rb P 10 _ hR (by omega) (by omega) (by omega)).mono ?_
  rintro e w1 ⟨v1, rfl, hv1, hv1', hg1, hr1⟩
  have hsz1 : w.heap.size ≤ w1.heap.size := hg1.size
  have hS0 : Sts (w1.alloc (.cells #[.int .i64 2, .int .i64 1, .int .i64 0, .int .i64 v1, .slice none 0 0, .slice none 0 0] 96)) w.heap.size (some ⟨w1.heap.size, 0, none⟩) 1 [.mk 2 1 0 v1 [] []] :=
    ⟨[[.int .i64 2, .int .i64 1, .int .i64 0, .int .i64 v1, .slice none 0 0, .slice none 0 0]], rfl, ⟨by simp, .inr ⟨w1.heap.size, 1, _, rfl, hsz1, heap1_0 _ _, Nat.le_refl _, by simp [maxLen], rfl, rfl⟩⟩, fun i hi => by
      obtain rfl : i = 0 := by simp at hi; omega
      exact ⟨by simp [St.thn, maxLen], by simp [St.els, maxLen], none, 0, none, 0, rfl, by simp [St.thn, SlAt], by simp [St.els, SlAt]⟩⟩
  have hG1 : ∀ o, Gr w (w1.alloc o) (some rb) := fun o => hg1.alloc o
  have hR1 : ∀ o, Rd (w1.alloc o) rb (P + 1) := fun o => hr1.gr0 ((Gr.refl _ none).alloc o)
  have HS0 := Lib.hid hS0
  have HG1 := Lib.hid hG1
  have HR1 := Lib.hid hR1
  clear hS0 hG1 hR1 hg1 hr1 hv1'
  go_wp2_with fail
  go_loopw [9, 10] (fun v i wr => ∃ (k m : Nat) (L : List St) (ao : Option Addr) (cap : Nat), k ≤ n ∧ i = .int .i64 k ∧ L.length = m ∧ m = k + 1 ∧ v = .slice ao m cap ∧ Sts wr w.heap.size ao cap L ∧ Gr w wr (some rb) ∧ Rd wr rb (P + 1 + k * cOne d) ∧ St.count L ≤ 1 + k * (1 + mOne d)) (fun _ i _ => n - (intOf i).toNat)
  case atStart => exact ⟨0, 1, _, _, 1, Nat.zero_le _, rfl, rfl, rfl, rfl, HS0.out, HG1.out _, by simpa using HR1.out _, by simp [St.count, St.inner]⟩
  case round =>
    obtain ⟨k, m, L, ao, cap, hk, rfl, hL, hm, rfl, hS, hg, hr, hc⟩ := hrel
    have hkc : k * cOne d ≤ 344 := by have := Nat.mul_le_mul (show k ≤ 8 by omega) hc43; omega
    have hm9 : m ≤ 9 := by omega
    have HL := Lib.hid hL
    have HM := Lib.hid hm
    have HS := Lib.hid hS
    have HC := Lib.hid hc
    clear hL hm hS hc
    by_cases hlt : k < n
    · have hki : (k : Int) < (n : Int) := by omega
      go_wp2_with fail
      refine (HO.out rb (P + 1 + k * cOne d) tv wr hr (by omega)).mono ?_
      rintro e w3 ⟨st, r, rfl, hrow, hg3, hr3, hm3⟩
      have hsz3 : wr.heap.size ≤ w3.heap.size := hg3.size
      have hszr : w.heap.size ≤ wr.heap.size := hg.size
      have HR3 := Lib.hid (show StRow w3 (Inn w.heap.size ao) st r from hrow.sub fun b o hb => ⟨by unfold New at hb; omega, fun e => by have := (HS.out.own b e).2; unfold New at hb; omega⟩)
      have HS3 := Lib.hid (HS.out.gr hg3 (fun r e => by cases e; exact hrb))
      have HG3 := Lib.hid (hg.trans hg3 (fun r e => .inl e))
      obtain ⟨q1, q2, at', ct, ae, ce, rfl, q3, q4⟩ := hrow
      have HH := Lib.hid hr3
      have HM3 := Lib.hid hm3
      have HGA := Lib.hid (show ∀ o, Gr w3 (w3.alloc o) none from fun o => (Gr.refl _ _).alloc _)
      have HOWN := Lib.hid (show ∀ g, ob ao = some g → w.heap.size ≤ g ∧ g < wr.heap.size from HS.out.own)
      clear q1 q2 q3 q4 hg3 hr3 hm3 hr
      go_wp2_with (at_builtin; refine app_sts _ rfl (.tmp 20) (.tmp 25) rfl w.heap.size ao cap L m HL.out rfl (HS3.out.gr0 (HGA.out _)) (by omega) (by simp; omega) st _ ⟨w3.heap.size, 0, none⟩ _ rfl (row_cells (heap1_0 _ _)) (HR3.out.gr0 (HGA.out _)) ?_; rintro g cap' w4 hS4 hg4 ho4)
      go_roundw
      case rel =>
        refine ⟨k + 1, m + 1, L ++ [st], _, cap', by omega, by go_num, by rw [List.length_append, HL.out]; rfl, by have := HM.out; omega, rfl, hS4, (HG3.out.alloc _).trans hg4 (fun r e => .inr (HOWN.out r e).1), ?_, ?_⟩
        · refine ((HH.out.gr0 (HGA.out _)).far hg4 (fun r e => by have := (HOWN.out r e).1; omega)).mono ?_
          rw [Nat.add_mul]; omega
        · have := HC.out
          have := HM3.out
          rw [count_app, count_one, Nat.add_mul]
          omega
      case measure => simp [intOf]; omega
    · obtain rfl : k = n := by omega
      go_wp2_with fail
      go_ret
      exact ⟨L, ao, cap, by rw [HL.out]; rfl, HS.out.at, hg, hr.mono (by omega), HC.out⟩
theorem one0 : OneC 0 := one_step 0 (by omega) (by omega) (by omega)
theorem some0 : SomeC 0 := some_step 0 (by omega) one0
theorem one1 : OneC 1 := one_step 1 (by omega) (fun _ => some0) (fun _ => one0)
theorem some1 : SomeC 1 := some_step 1 (by omega) one1
theorem one2 : OneC 2 := one_step 2 (by omega) (fun _ => some1) (fun _ => one0)
theorem some2 : SomeC 2 := some_step 2 (by omega) one2
end Go.Proofs.Ytadidppbhpdnkaa

namespace Go.Proofs.Ytadidppbhpdnkaa

open Go.RowKit

/-- n texts lie in block g. -/
def StrsAt (w : World) (g n : Nat) : Prop := ∀ i, i < n → ∃ s : ByteArray, w.cell? ⟨g, i, none⟩ = some (.string s) ∧ s.size ≤ 1000000
def isStr : Value → Bool | .string s => decide (s.size ≤ 1000) | _ => false
theorem strs_of {w : World} {g : Nat} {cs : Array Value} {t : TypeId} (h : w.heap[g]? = some (.cells cs t (0, 0))) (hs : cs.toList.all isStr = true) : StrsAt w g cs.size := by
  intro i hi
  rw [cell_of_row _ _ _ _ _ _ h]
  have hm : cs[i] ∈ cs.toList := by simp
  have := (List.all_eq_true.1 hs) _ hm
  rw [Array.getElem?_eq_getElem hi]
  cases hv : cs[i] with
  | string s => rw [hv] at this; simp [isStr] at this; exact ⟨s, rfl, by omega⟩
  | _ => rw [hv] at this; simp [isStr] at this
theorem StrsAt.gr {w w' : World} {g n : Nat} {row : Option Nat} (h : StrsAt w g n) (hg : Gr w w' row) (hr : row ≠ some g) : StrsAt w' g n := by
  intro i hi
  obtain ⟨s, hc, hs⟩ := h i hi
  exact ⟨s, hg.cell hc hr, hs⟩
def TextsR (w : World) (e : Ending) (w' : World) : Prop := ∃ g, e = .returned (.slice (some ⟨g, 0, none⟩) 25 25) ∧ StrsAt w' g 25 ∧ w.heap.size ≤ g ∧ Gr w w' none
set_option maxRecDepth 1000000 in
set_option maxHeartbeats 4000000 in
theorem l1Texts_any (w : World) : Calls Try.prog 77 #[] w (TextsR w) := by
  go_enter Try.func77, Try.ntmps77
  go_wp2
  go_ret
  exact ⟨_, rfl, strs_of (heap1_0 _ _) (by rfl), Nat.le_refl _, (Gr.refl _ _).alloc _⟩
/-- A program was drawn: at most tm types and cm statements, at most c picks. -/
def DrawR (rb P c tm cm : Nat) (w : World) (e : Ending) (w' : World) : Prop := ∃ (p : Pr) (at' ab : Option Addr) (ct cb : Nat),
  e = .returned (.agg #[.slice at' p.types.length ct, .slice ab p.body.length cb]) ∧ InAt w' (New w.heap.size) p.types at' ∧ SlAt w' (New w.heap.size) p.body ab ∧ p.types.length ≤ tm ∧ St.count p.body ≤ cm ∧ Gr w w' (some rb) ∧ Rd w' rb (P + c)
/-- The two cells of a program that is to come. -/
def Zp (w1 : World) (b : Nat) (v0 v1 : Value) : Prop := w1.cell? ⟨b, 0, none⟩ = some v0 ∧ w1.cell? ⟨b, 1, none⟩ = some v1 ∧ ∀ o, w1.frozen? ⟨b, o, none⟩ = false
theorem Zp.new (w : World) (v0 v1 : Value) (t : TypeId) : Zp (w.alloc (.cells #[v0, v1] t)) w.heap.size v0 v1 := ⟨cell_of_row _ _ _ _ _ _ (heap1_0 _ _), cell_of_row _ _ _ _ _ _ (heap1_0 _ _), frz_new (heap1_0 _ _)⟩
theorem Zp.gr {w w' : World} {b : Nat} {v0 v1 : Value} {row : Option Nat} (h : Zp w b v0 v1) (hg : Gr w w' row) (hr : row ≠ some b) : Zp w' b v0 v1 :=
  ⟨hg.cell h.1 hr, hg.cell h.2.1 hr, fun o => (hg.frozen (p := ⟨b, o, none⟩) (show b < w.heap.size from lt_of_cell h.1) hr).trans (h.2.2 o)⟩
theorem Zp.lt {w : World} {b : Nat} {v0 v1 : Value} (h : Zp w b v0 v1) : b < w.heap.size := lt_of_cell h.1
theorem Zp.put2 {u : World} {b : Nat} {x0 x1 : Value} (h : Zp u b x0 x1) (v0 v1 : Value) : (put2 u b v0 v1).cell? ⟨b, 0, none⟩ = some v0 ∧ (put2 u b v0 v1).cell? ⟨b, 1, none⟩ = some v1 := by
  unfold Go.Proofs.Ytadidppbhpdnkaa.put2
  refine ⟨?_, ?_⟩
  · rw [World.cell?_setCell_other _ _ _ _ (by simp)]
    exact World.cell?_setCell_same _ _ _ h.1
  · refine World.cell?_setCell_same' _ _ _ ?_
    rw [World.cell?_setCell_other _ _ _ _ (by simp), h.2.1]; rfl
theorem draw_ret {R : Ending → World → Prop} {tmps : Array Value} {u : World} {b : Nat} {x0 x1 : Value} (hz : Zp u b x0 x1) {v0 v1 : Value} (ht : tmps.getD 2 undef = .pointer (some ⟨b, 0, none⟩)) (h : R (.returned (.agg #[v0, v1])) (Go.Proofs.Ytadidppbhpdnkaa.put2 u b v0 v1)) :
    bodyPost Try.prog Try.f80 R .ret { tmps := tmps, defers := [] } (Go.Proofs.Ytadidppbhpdnkaa.put2 u b v0 v1) := by
  obtain ⟨c0, c1⟩ := hz.put2 v0 v1
  generalize Go.Proofs.Ytadidppbhpdnkaa.put2 u b v0 v1 = W at *
  refine bodyPost_ret (v := .agg #[v0, v1]) ?_ rfl h
  have ht' : tmps[2]?.getD undef = .pointer (some ⟨b, 0, none⟩) := by simpa using ht
  simp [results, Try.results80, go_sem, ht', c0, c1]
set_option maxRecDepth 100000 in
set_option maxHeartbeats 8000000 in
theorem l1Draw_any (rb P : Nat) (w : World) (hR : Rd w rb P) (hP : P ≤ 5000) : Calls Try.prog 80 #[.pointer (some ⟨rb, 0, none⟩)] w (DrawR rb P 400 6 105 w) := by
  have hrb := hR.lt
  have hZ := Zp.new w (.slice none 0 0) (.slice none 0 0) 26
  have hA : Gr w (w.alloc (.cells #[.slice none 0 0, .slice none 0 0] 26)) (some rb) := (Gr.refl _ _).alloc _
  have hR0 := hR.gr0 ((Gr.refl _ none).alloc (.cells #[.slice none 0 0, .slice none 0 0] 26))
  go_enter Try.func80, Try.ntmps80
  go_wp2_with fail
  refine (l1Texts_any _).mono ?_
  rintro e w1 ⟨g, rfl, hS, hgb, hg1⟩
  have hZ1 := hZ.gr hg1 (by simp)
  have hG1 := hA.trans0 hg1
  have hR1 := hR0.gr0 hg1
  have hgb' : w.heap.size < g := by simp at hgb; omega
  clear hZ hA hR0 hR hg1 hgb
  go_wp2_with fail
  refine (pick_any rb P 25 _ hR1 (by omega) (by omega) (by omega)).mono ?_
  rintro e w2 ⟨v1, rfl, hv1, hv1', hg2, hr2⟩
  have hb1 : v1 < 25 := hv1' (by omega)
  obtain ⟨k1, rfl⟩ : ∃ k1 : Nat, v1 = k1 := ⟨v1.toNat, by omega⟩
  obtain ⟨s, hc, hs⟩ := (hS.gr hg2 (by simp; omega)) k1 (by omega)
  have hZ2 := hZ1.gr hg2 (by simp; omega)
  have hG2 := hG1.trans hg2 (fun r e => .inl e)
  clear hS hZ1 hG1 hR1 hg2 hv1' hv1
  go_wp2_with fail
  refine (parseProgram_any s _ hs).mono ?_
  rintro e w3 ⟨p, at', ab, ct, cb, b, rfl, hT, hB, ht6, hc30, hg3⟩
  have hZ3 := hZ2.gr hg3 (by simp)
  have hG3 := hG2.trans0 hg3
  have hR3 := hr2.gr0 hg3
  have hsz2 : w.heap.size < w2.heap.size := hZ2.lt
  have HT := Lib.hid (show InAt w3 (New (w.heap.size + 1)) p.types at' from hT.mono (fun b _ hb => by unfold New at *; omega) (fun _ _ _ _ h => h))
  have HB := Lib.hid (show SlAt w3 (New (w.heap.size + 1)) p.body ab from hB.sub fun b _ hb => by unfold New at *; omega)
  have hP3 := Zp.new w3 (.slice at' p.types.length ct) (.slice ab p.body.length cb) 26
  have hA3 : ∀ o, Gr w3 (w3.alloc o) none := fun o => (Gr.refl _ _).alloc _
  have HA3 := Lib.hid hA3
  have HZ3 := Lib.hid hZ3
  have HG3 := Lib.hid hG3
  have HP3 := Lib.hid hP3
  clear hZ2 hG2 hr2 hg3 hT hB hc hs hZ3 hG3 hP3 hA3
  go_wp2_with fail
  refine (pick_any rb (P + 1) 3 _ (hR3.gr0 (HA3.out _)) (by omega) (by omega) (by omega)).mono ?_
  rintro e w4 ⟨v2, rfl, hv2, hv2', hg4, hr4⟩
  have hb2 : v2 < 3 := hv2' (by omega)
  have hZ4 := (HZ3.out.gr (HA3.out _) (by simp)).gr hg4 (by simp; omega)
  have hlt3 : rb < w3.heap.size := hR3.lt
  have hP4 := HP3.out.gr hg4 (by simp; omega)
  have HG4 := Lib.hid ((HG3.out.alloc _).trans hg4 (fun r e => .inl e))
  have HT4 := Lib.hid (InAt.gr hg4 (fun b _ hb e => by cases e; unfold New at hb; omega) (HT.out.gr0 (HA3.out _)))
  have HB4 := Lib.hid ((HB.out.gr0 (HA3.out _)).far hg4 (fun r e => by cases e; omega))
  clear hg4 hv2' hR3 HG3 HZ3 HP3 HT HB
  by_cases hpos : 0 < v2
  · obtain ⟨z0, z1, zf⟩ := hZ4
    obtain ⟨p0, p1, pf⟩ := hP4
    have HZ := Lib.hid (show Zp w4 w.heap.size _ _ from ⟨z0, z1, zf⟩)
    go_wp2_with fail
    (try simp only [Exit.inBlock, Exit.then])
    refine draw_ret (b := w.heap.size) HZ.out rfl ?_
    exact ⟨p, at', ab, ct, cb, rfl, HT4.out.put2 (by omega), HB4.out.put2 (by omega), ht6, by omega, HG4.out.trans (put2_own _ _ _ _) (fun r e => .inr (by cases e; exact Nat.le_refl _)), (hr4.far (put2_own _ _ _ _) (fun r e => by cases e; exact hrb)).mono (by omega)⟩
  · have hv20 : v2 = 0 := by omega
    subst hv20
    by_cases hlen : p.types.length = 0
    · obtain ⟨z0, z1, zf⟩ := hZ4
      obtain ⟨p0, p1, pf⟩ := hP4
      have HZ := Lib.hid (show Zp w4 w.heap.size _ _ from ⟨z0, z1, zf⟩)
      have HL0 := Lib.hid hlen
      rw [hlen] at p0
      go_wp2_with fail
      (try simp only [Exit.inBlock, Exit.then])
      refine draw_ret (b := w.heap.size) HZ.out rfl ?_
      exact ⟨p, at', ab, ct, cb, by rw [HL0.out], HT4.out.put2 (by omega), HB4.out.put2 (by omega), ht6, by omega, HG4.out.trans (put2_own _ _ _ _) (fun r e => .inr (by cases e; exact Nat.le_refl _)), (hr4.far (put2_own _ _ _ _) (fun r e => by cases e; exact hrb)).mono (by omega)⟩
    · have hlen' : ((p.types.length : Int) == 0) = false := beq_eq_false_iff_ne.2 (by omega)
      obtain ⟨p0, p1, pf⟩ := hP4
      have HZ4 := Lib.hid hZ4
      have hlt4 : w.heap.size < w4.heap.size := hZ4.lt
      clear hZ4 HT4 HB4 hlen
      go_upto_region 6 with fail
      obtain ⟨wA, hwA⟩ : ∃ wA : World, wA = (w4.alloc (.cells #[.int .i64 1, .int .i64 2, .int .i64 2, .int .i64 3, .int .i64 4, .int .i64 4] 3)).alloc (.cells #[.slice (some ⟨w4.heap.size, 0, none⟩) 6 6, .slice none 0 0] 26) := ⟨_, rfl⟩
      have hgA : Gr w4 wA none := by rw [hwA]; exact ((Gr.refl _ _).alloc _).alloc _
      have hTA : InAt wA (New w4.heap.size) [1, 2, 2, 3, 4, 4] (some ⟨w4.heap.size, 0, none⟩) := by
        rw [hwA]
        refine InAt.of fun i hi => ⟨Nat.le_refl _, ?_⟩
        rw [cell_of_row _ _ _ _ _ _ (heap2_0 _ _ _), Nat.zero_add]
        have : i = 0 ∨ i = 1 ∨ i = 2 ∨ i = 3 ∨ i = 4 ∨ i = 5 := by simp at hi; omega
        rcases this with rfl | rfl | rfl | rfl | rfl | rfl <;> rfl
      have hPA : Zp wA (w4.heap.size + 1) (.slice (some ⟨w4.heap.size, 0, none⟩) 6 6) (.slice none 0 0) := by
        rw [hwA]; exact ⟨cell_of_row _ _ _ _ _ _ (heap2_1 _ _ _), cell_of_row _ _ _ _ _ _ (heap2_1 _ _ _), frz_new (heap2_1 _ _ _)⟩
      have hsA : w4.heap.size + 1 < wA.heap.size := hPA.lt
      rw [← hwA]
      have hZA := HZ4.out.gr hgA (by simp)
      have hRA := hr4.gr0 hgA
      have HGA := Lib.hid (HG4.out.trans0 hgA)
      have HPA := Lib.hid hPA
      have HZA := Lib.hid hZA
      have HTA := Lib.hid hTA
      have hlt4' : rb < w4.heap.size := hr4.lt
      clear hwA hPA hZA hTA HZ4 HG4 hr4 p0 p1 pf
      refine wp_region_held_drew (S := fun w' => Gr w4 w' (some rb) ∧ w'.cell? ⟨w4.heap.size + 1, 0, none⟩ = some (.slice (some ⟨w4.heap.size, 0, none⟩) 6 6)) (by kernel_rfl) (⟨hgA.weaken.drew, HPA.out.1⟩) (fun hHeld => ?_)
      refine wpAnyH_take (i := 0) (v := ?_) rfl (by kernel_rfl) (by kernel_rfl) (by kernel_rfl) (fun _ _ _ h => h) (Or.inl ⟨by rfl, ?_⟩) hHeld ?_
      rotate_left
      focus (intro wq hq; clear hq; go_simp; try with_reducible rfl)
      simp only [Act.put, List.getElem_toArray, List.getElem_cons_zero, List.setIfInBounds_toArray, List.set_cons_zero, List.set_cons_succ]
      refine wpAnyH_take (i := 1) (v := ?_) rfl (by kernel_rfl) (by kernel_rfl) (by kernel_rfl) (fun _ _ _ h => h) (Or.inl ⟨by rfl, ?_⟩) hHeld ?_
      rotate_left
      focus (intro wq hq; clear hq; go_simp; try with_reducible rfl)
      simp only [Act.put, List.getElem_toArray, List.getElem_cons_succ, List.getElem_cons_zero, List.setIfInBounds_toArray, List.set_cons_zero, List.set_cons_succ]
      refine wpAnyH_take (i := 2) (v := ?_) rfl (by kernel_rfl) (by kernel_rfl) (by kernel_rfl) (fun _ _ _ h => h) (Or.inl ⟨by rfl, ?_⟩) hHeld ?_
      rotate_left
      focus (intro wq hq; have k0 := hq.2; go_simp; try with_reducible rfl)
      simp only [Act.put, List.getElem_toArray, List.getElem_cons_succ, List.getElem_cons_zero, List.setIfInBounds_toArray, List.set_cons_zero, List.set_cons_succ]
      refine wpAnyH_take (i := 3) (v := ?_) rfl (by kernel_rfl) (by kernel_rfl) (by kernel_rfl) (fun _ _ _ h => h) (Or.inl ⟨by rfl, ?_⟩) hHeld ?_
      rotate_left
      focus (intro wq hq; clear hq; go_simp; try with_reducible rfl)
      simp only [Act.put, List.getElem_toArray, List.getElem_cons_succ, List.getElem_cons_zero, List.setIfInBounds_toArray, List.set_cons_zero, List.set_cons_succ]
      refine wpAnyH_ready (rs := [4]) (by kernel_rfl) (by simp) ?_
      refine AllReadyH.cons rfl (fun K hK => ?_) AllReadyH.nil
      go_simp
      try dsimp only
      refine hK.out _ _ (⟨Gr.alloc hHeld.1 _, ((Gr.refl _ none).alloc _).cell hHeld.2 (by simp)⟩) (fun hHeld => ?_)
      clear hK K
      try simp only [Act.put, List.getElem_toArray, List.getElem_cons_succ, List.getElem_cons_zero, List.setIfInBounds_toArray, List.set_cons_zero, List.set_cons_succ]
      refine wpAnyH_ready (rs := [5]) (by kernel_rfl) (by simp) ?_
      refine AllReadyH.cons rfl (fun K hK => ?_) AllReadyH.nil
      go_simp
      refine (num_any rb (P + 2) [5, 4, 7, 3, 8] 5 rfl _ _ _ (hRA.gr0 ((Gr.refl _ none).drew.alloc _)) (by omega) (inAt_lit _ rb (by simp; omega) _ _ rfl _) (by omega) (by omega)).mono ?_
      rintro e w5 ⟨v5, hm5, rfl, hg5, hr5⟩
      obtain ⟨k5, rfl⟩ : ∃ k5 : Nat, v5 = k5 := ⟨v5.toNat, by simp at hm5; omega⟩
      have hk5 : k5 ≤ 8 := by simp at hm5; omega
      try dsimp only
      refine hK.out _ _ (⟨Gr.trans hHeld.1 hg5 (fun r e => .inl e), Gr.cell hg5 hHeld.2 (by simp; omega)⟩) (fun hHeld => ?_)
      clear hK K
      try simp only [Act.put, List.getElem_toArray, List.getElem_cons_succ, List.getElem_cons_zero, List.setIfInBounds_toArray, List.set_cons_zero, List.set_cons_succ]
      refine wpAnyH_ready (rs := [6]) (by kernel_rfl) (by simp) ?_
      refine AllReadyH.cons rfl (fun K hK => ?_) AllReadyH.nil
      go_simp
      refine (some2 rb (P + 2 + 1) k5 _ w5 hr5 (by omega) hk5).mono ?_
      rintro e w6 ⟨L6, a6, c6, rfl, hl6, hg6, hr6, hc6⟩
      have HP6 := Lib.hid (((HPA.out.gr ((Gr.refl wA none).drew.alloc _) (by simp)).gr hg5 (by simp; omega)).gr hg6 (by simp; omega))
      try dsimp only
      refine hK.out _ _ (⟨Gr.trans hHeld.1 hg6 (fun r e => .inl e), Gr.cell hg6 hHeld.2 (by simp; omega)⟩) (fun hHeld => ?_)
      clear hK K
      try simp only [Act.put, List.getElem_toArray, List.getElem_cons_succ, List.getElem_cons_zero, List.setIfInBounds_toArray, List.set_cons_zero, List.set_cons_succ]
      refine wpAnyH_take (i := 7) (v := ?_) rfl (by kernel_rfl) (by kernel_rfl) (by kernel_rfl) (fun _ _ _ h => h) (Or.inl ⟨by rfl, ?_⟩) hHeld ?_
      rotate_left
      focus (intro wq hq; clear hq; go_simp; try with_reducible rfl)
      simp only [Act.put, List.getElem_toArray, List.getElem_cons_succ, List.getElem_cons_zero, List.setIfInBounds_toArray, List.set_cons_zero, List.set_cons_succ]
      refine wpAnyH_ready (rs := [8]) (by kernel_rfl) (by simp) ?_
      refine AllReadyH.cons rfl (fun K hK => ?_) AllReadyH.nil
      obtain ⟨s0, s1, sf⟩ := HP6.out
      go_simp
      try dsimp only
      refine hK.out _ _ (⟨hHeld.1.setNew (by show w4.heap.size ≤ w4.heap.size + 1; omega) _, by rw [World.cell?_setCell_other _ _ _ _ (by simp)]; exact hHeld.2⟩) (fun hHeld => ?_)
      clear hK K
      try simp only [Act.put, List.getElem_toArray, List.getElem_cons_succ, List.getElem_cons_zero, List.setIfInBounds_toArray, List.set_cons_zero, List.set_cons_succ]
      refine wpAnyH_done (by kernel_rfl) ?_ _
      have hW : Gr w6 (w6.setCell ⟨w4.heap.size + 1, 1, none⟩ (.slice a6 L6.length c6)) (some (w4.heap.size + 1)) := own_set _ _ _ _
      have hz6 := (((HZA.out.gr ((Gr.refl wA none).drew.alloc _) (by simp)).gr hg5 (by simp; omega)).gr hg6 (by simp; omega)).gr hW (by simp; omega)
      have hT6 : InAt w6 (New w4.heap.size) [1, 2, 2, 3, 4, 4] (some ⟨w4.heap.size, 0, none⟩) := InAt.gr hg6 (fun b _ hb e => by cases e; unfold New at hb; omega) (InAt.gr hg5 (fun b _ hb e => by cases e; unfold New at hb; omega) (HTA.out.gr0 ((Gr.refl wA none).drew.alloc _)))
      have hT7 : InAt (w6.setCell ⟨w4.heap.size + 1, 1, none⟩ (.slice a6 L6.length c6)) (fun b _ => b = w4.heap.size) [1, 2, 2, 3, 4, 4] (some ⟨w4.heap.size, 0, none⟩) :=
        InAt.gr hW (fun b _ hb e => by cases e; omega) (InAt.mono (fun b o hb => by simp [ob] at hb; exact hb.symm) (fun _ _ _ _ h => h) _ _ (InAt.block hT6))
      have hsz5 : wA.heap.size ≤ w5.heap.size := by have := hg5.size; simp at this; omega
      have hL7 : SlAt (w6.setCell ⟨w4.heap.size + 1, 1, none⟩ (.slice a6 L6.length c6)) (New w5.heap.size) L6 a6 := hl6.far hW (fun r e => by cases e; omega)
      have hr7 := (hr6.far hW (fun r e => by cases e; omega)).mono (show P + 2 + 1 + (1 + k5 * cOne 2) ≤ P + 400 by have : k5 * cOne 2 ≤ 8 * 43 := Nat.mul_le_mul hk5 (Nat.le_refl _); omega)
      have hg7 : Gr w (w6.setCell ⟨w4.heap.size + 1, 1, none⟩ (.slice a6 L6.length c6)) (some rb) := (((HGA.out.drew.alloc _).trans hg5 (fun r e => .inl e)).trans hg6 (fun r e => .inl e)).setNew (by show w.heap.size ≤ w4.heap.size + 1; omega) _
      have hc7 : St.count L6 ≤ 105 := by have : k5 * (1 + mOne 2) ≤ 8 * 13 := Nat.mul_le_mul hk5 (Nat.le_refl _); omega
      obtain ⟨s0, s1, sf⟩ := HP6.out
      have t0 : (w6.setCell ⟨w4.heap.size + 1, 1, none⟩ (.slice a6 L6.length c6)).cell? ⟨w4.heap.size + 1, 0, none⟩ = some (.slice (some ⟨w4.heap.size, 0, none⟩) 6 6) := by rw [World.cell?_setCell_other _ _ _ _ (by simp)]; exact s0
      have t1 : (w6.setCell ⟨w4.heap.size + 1, 1, none⟩ (.slice a6 L6.length c6)).cell? ⟨w4.heap.size + 1, 1, none⟩ = some (.slice a6 L6.length c6) := World.cell?_setCell_same _ _ _ s1
      have HZ7 := Lib.hid hz6
      have HT7 := Lib.hid hT7
      have HL7 := Lib.hid hL7
      have HR7 := Lib.hid hr7
      have HG7 := Lib.hid hg7
      have hsw : w5.heap.size ≤ w6.heap.size := hg6.size
      clear hW hT6 hT7 hL7 hr7 hg7 hl6 hg5 hg6 hr5 hr6 hRA s0 s1 sf hHeld hm5 hc6
      obtain ⟨W, hWW⟩ : ∃ W : World, W = w6.setCell ⟨w4.heap.size + 1, 1, none⟩ (.slice a6 L6.length c6) := ⟨_, rfl⟩
      rw [← hWW] at hz6 t0 t1 HZ7 HT7 HL7 HR7 HG7 ⊢
      clear hWW
      obtain ⟨z0, z1, zf⟩ := hz6
      go_wp2_with fail
      (try simp only [Exit.inBlock, Exit.then])
      refine draw_ret (b := w.heap.size) HZ7.out rfl ?_
      exact ⟨⟨[1, 2, 2, 3, 4, 4], L6⟩, _, a6, 6, c6, rfl, (InAt.gr (put2_own _ _ _ _) (fun b _ hb e => by cases e; omega) HT7.out).mono (fun b _ hb => by unfold New; omega) (fun _ _ _ _ h => h), HL7.out.put2 (by omega), by simp, by omega, HG7.out.trans (put2_own _ _ _ _) (fun r e => .inr (by cases e; exact Nat.le_refl _)), HR7.out.far (put2_own _ _ _ _) (fun r e => by cases e; exact hrb)⟩
end Go.Proofs.Ytadidppbhpdnkaa

/- Cells: walks of cells and MayAlias of the program. -/
import Derived.Test.YtadlnjglpigjmaaDHC

import Derived.Test.YtadlnjglpigjmaaZ6

namespace Go.Proofs.Ytadlnjglpigjmaa

open Go.RowKit

/-- What the variable that a point sets reaches. -/
def cellV (L : List Pt) (i : Nat) (Y : Nat × Nat → Prop) (k : Nat) : Prop := ((ptAt L i).op = 2 ∧ k = i) ∨ (((ptAt L i).op = 3 ∨ (ptAt L i).op = 4 ∨ (ptAt L i).op = 5) ∧ Y ((ptAt L i).y.toNat, k))
theorem cellV_mono (L : List Pt) : MonoV (cellV L) := by
  rintro i Y Z h k (hk | ⟨ho, hy⟩)
  · exact .inl hk
  · exact .inr ⟨ho, h _ hy⟩
theorem pt_y {p : Pr} (hv : validP p = true) {i : Nat} (hi : i < (pts p).length) (ho : (ptAt (pts p) i).op = 3 ∨ (ptAt (pts p) i).op = 4 ∨ (ptAt (pts p) i).op = 5 ∨ (ptAt (pts p) i).op = 6) : ∃ y : Nat, (ptAt (pts p) i).y = y ∧ y < p.types.length := by
  have h := pt_ok hv hi
  rw [← ptAt_get hi] at h
  rcases h with h | h | h | h
  · omega
  · omega
  · omega
  · obtain ⟨_, y, _, hy, _, hl⟩ := simple_xy h ho
    exact ⟨y, hy, hl⟩
set_option maxRecDepth 100000 in
set_option maxHeartbeats 2000000 in
theorem cells1_any (p : Pr) (gb gp i : Nat) (O : Nat → Nat) (w : World) (hgp : w.cell? ⟨gp, 0, none⟩ = some (.pointer (some ⟨gb, 0, none⟩))) (hGA : GraphAt w p gb) (hv : validP p = true) (hi : i < (pts p).length) (hO : ∀ v, O v < 2 ^ 64) :
    Calls Try.prog 110 #[.int .i64 i, .agg (words O), .pointer (some ⟨gp, 0, none⟩)] w (Tells (cellV (pts p)) i O w) := by
  have hp : p.types.length ≤ 6 := valid_types hv
  have hl : (pts p).length ≤ 61 := pts_len hv
  have hy := pt_y hv hi
  obtain ⟨L, a3, n3, a4, n4, al, cl, hL, d0, d1, d2, hr1, hr2, hr3⟩ := hGA
  rw [← hL] at hi hl hy ⊢
  obtain ⟨b, po, rfl, an, cn, c0, c1, c2, c3, c4, -, -⟩ := hr3 i hi
  obtain ⟨q, eq⟩ : ∃ q, L[i] = q := ⟨_, rfl⟩
  rw [eq] at c0 c1 c2 c3 c4
  have hpa : ptAt L i = q := (ptAt_get hi).trans eq
  rw [hpa] at hy
  have HPA := Lib.hid hpa
  have HO := Lib.hid hO
  obtain ⟨nn, hnn⟩ : ∃ nn, q.next.length = nn := ⟨_, rfl⟩
  rw [hnn] at c4
  have hW0 : ∀ A, Words ((w.alloc (.cells (words O) 82)).alloc A) w.heap.size O := fun A => heap2_0 _ _ _
  have hgA : ∀ A, Gr w (w.alloc A) none := fun A => (Gr.refl _ _).alloc _
  have g2 := fun A => (hgA A).cell d2 (by simp)
  have gg := fun A => (hgA A).cell hgp (by simp)
  have k0 := fun A => (hgA A).cell c0 (by simp)
  have k1 := fun A => (hgA A).cell c1 (by simp)
  have k2 := fun A => (hgA A).cell c2 (by simp)
  have k3 := fun A => (hgA A).cell c3 (by simp)
  have k4 := fun A => (hgA A).cell c4 (by simp)
  have HW0 := Lib.hid hW0
  have hgr : ∀ A B, Gr w ((w.alloc A).alloc B) none := fun A B => ((Gr.refl _ _).alloc _).alloc _
  have HGR := Lib.hid hgr
  obtain ⟨o, ho⟩ : ∃ o, q.op = o := ⟨_, rfl⟩
  obtain ⟨y, hyy⟩ : ∃ y, q.y = y := ⟨_, rfl⟩
  rw [ho] at k0 hy
  rw [hyy] at k2 hy
  have HOP := Lib.hid ho
  have HYY := Lib.hid hyy
  clear hL d0 d1 d2 hr1 hr2 hr3 eq hpa hv hO hnn hW0 hgA c0 c1 c2 c3 c4 hgp hgr ho hyy
  by_cases h2 : o = 2
  · subst h2
    clear hy
    go_enter Try.func110, Try.ntmps110
    go_wp2_with fail
    go_ret
    refine ⟨2 ^ i, ret_int (by first | exact u64_pow (by omega) | simp), Nat.pow_lt_pow_right (by omega) (by omega), fun k => ?_, HGR.out _ _⟩
    unfold cellV
    rw [HPA.out, HOP.out, Nat.testBit_two_pow, decide_eq_true_eq]
    constructor
    · exact fun h => .inl ⟨rfl, h.symm⟩
    · rintro (h | h)
      · exact h.2.symm
      · omega
  by_cases h345 : o = 3 ∨ o = 4 ∨ o = 5
  · obtain ⟨yj, rfl, hyl⟩ := hy (by omega)
    have hy6 : yj < 6 := by omega
    have HT := Lib.hid (show ∀ k, (O yj).testBit k = true ↔ cellV L i (fun b => (O b.1).testBit b.2 = true) k from fun k => by
      unfold cellV
      rw [HPA.out, HOP.out, HYY.out]
      constructor
      · exact fun h => .inr ⟨h345, h⟩
      · rintro (h | h)
        · omega
        · exact h.2)
    have z := fun A => (HW0.out A).cell hy6
    have HLT := Lib.hid (HO.out yj)
    obtain ⟨V, hV⟩ : ∃ V, O yj = V := ⟨_, rfl⟩
    rw [hV] at z HT HLT
    clear hy hV
    rcases h345 with rfl | rfl | rfl
    all_goals
      go_enter Try.func110, Try.ntmps110
      go_wp2_with fail
      go_ret
      exact ⟨V, rfl, HLT.out, HT.out, HGR.out _ _⟩
  · have HT := Lib.hid (show ∀ k, (0 : Nat).testBit k = true ↔ cellV L i (fun b => (O b.1).testBit b.2 = true) k from fun k => by
      unfold cellV
      rw [HPA.out, HOP.out, Nat.zero_testBit]
      constructor
      · intro h; cases h
      · rintro (h | h)
        · exact absurd h.1 h2
        · exact absurd h.1 h345)
    have h3 : o ≠ 3 := fun h => h345 (.inl h)
    have h4 : o ≠ 4 := fun h => h345 (.inr (.inl h))
    have h5 : o ≠ 5 := fun h => h345 (.inr (.inr h))
    have e2 : (o == 2) = false := beq_eq_false_iff_ne.2 h2
    have e3 : (o == 3) = false := beq_eq_false_iff_ne.2 h3
    have e4 : (o == 4) = false := beq_eq_false_iff_ne.2 h4
    have e5 : (o == 5) = false := beq_eq_false_iff_ne.2 h5
    clear hy h345 h2 h3 h4 h5
    go_enter Try.func110, Try.ntmps110
    go_wp2_with fail
    go_ret
    exact ⟨0, rfl, by omega, HT.out, HGR.out _ _⟩
set_option maxRecDepth 100000 in
set_option maxHeartbeats 1000000 in
theorem cells_any (p : Pr) (gb : Nat) (w : World) (hGA : GraphAt w p gb) (hv : validP p = true) :
    Calls Try.prog 83 #[.pointer (some ⟨gb, 0, none⟩)] w (Tracked p (cellV (pts p)) w) := by
  have hg1 : ∀ o, Gr w (w.alloc o) none := fun o => (Gr.refl _ _).alloc _
  have HC := Lib.hid (show ∀ (i : Nat) (O : Nat → Nat) (w' : World), Gr (w.alloc (.cells #[.pointer (some ⟨gb, 0, none⟩)] 58)) w' none → i < (pts p).length → 0 ≤ setOf (ptAt (pts p) i).op (ptAt (pts p) i).x → (∀ v, O v < 2 ^ 64) → Calls Try.prog 110 #[.int .i64 i, .agg (words O), .pointer (some ⟨w.heap.size, 0, none⟩)] w' (Tells (cellV (pts p)) i O w') from
    fun i O w' hg hi _ hO => cells1_any p gb w.heap.size i O w' (hg.cell (cell_of_row _ _ _ _ _ _ (heap1_0 _ _)) (by simp)) (hGA.gr ((hg1 _).trans0 hg)) hv hi hO)
  go_enter Try.func83, Try.ntmps83
  go_wp2_with fail
  refine (trackedC_any p gb w.heap.size (cellV (pts p)) (cellV_mono _) _ (hGA.gr (hg1 _)) hv HC.out).mono ?_
  rintro e w1 ⟨g, W, rfl, hF, h64, ht, hg⟩
  have HF := Lib.hid hF
  have HT := Lib.hid ht
  have H64 := Lib.hid h64
  clear hF ht h64
  go_wp2_with fail
  go_ret
  exact ⟨g, W, rfl, HF.out, H64.out, HT.out, (hg1 _).trans0 hg⟩
theorem valid_pos' {p : Pr} (h : 0 < (ptsOf p).length) : validP p = true := by
  cases hv : validP p with
  | true => rfl
  | false => unfold ptsOf at h; rw [hv] at h; simp at h
theorem graph_one' {p : Pr} {a : Int} : graphOk p [a] = (decide (0 ≤ a) && decide (a < (ptsOf p).length)) := by
  unfold graphOk ptsOf
  cases hv : validP p with
  | true =>
    simp only [within, List.all_cons, List.all_nil, Bool.and_true, Bool.true_and, if_pos]
    congr 1
    apply decide_eq_decide.2
    omega
  | false =>
    rw [Bool.false_and, if_neg (by simp)]
    symm
    rw [Bool.and_eq_false_iff, decide_eq_false_iff_not, decide_eq_false_iff_not]
    simp only [List.length_nil]
    omega
open Classical in

/-- What MayAlias says. -/
noncomputable def mayAlias (p : Pr) (a v u : Int) : Bool := hasPoint p a v && (hasPoint p a u && decide (∃ k, Trk p (cellV (pts p)) a.toNat (v.toNat, k) ∧ Trk p (cellV (pts p)) a.toNat (u.toNat, k)))
theorem hasPoint_pts {p : Pr} {a v : Int} (h : hasPoint p a v = true) : validP p = true ∧ ∃ i j : Nat, a = i ∧ v = j ∧ i < (pts p).length ∧ j < p.types.length := by
  have hin : (0 ≤ a ∧ a < (ptsOf p).length) ∧ 0 ≤ v ∧ v < p.types.length := by unfold hasPoint at h; simp at h; omega
  have hv : validP p = true := valid_pos' (by omega)
  have hp : ptsOf p = pts p := by unfold ptsOf; rw [if_pos hv]
  rw [hp] at hin
  exact ⟨hv, a.toNat, v.toNat, by omega, by omega, by omega, by omega⟩
theorem hasPoint_of {p : Pr} (hv : validP p = true) {i j : Nat} (hi : i < (pts p).length) (hj : j < p.types.length) : hasPoint p i j = true := by
  have hp : ptsOf p = pts p := by unfold ptsOf; rw [if_pos hv]
  unfold hasPoint; rw [hp]; simp [hi, hj]
theorem mayAlias_in {p : Pr} (hv : validP p = true) {i j u : Nat} (hi : i < (pts p).length) (hj : j < p.types.length) (hu : u < p.types.length) : mayAlias p i j u = true ↔ ∃ k, Trk p (cellV (pts p)) i (j, k) ∧ Trk p (cellV (pts p)) i (u, k) := by
  unfold mayAlias; rw [hasPoint_of hv hi hj, hasPoint_of hv hi hu]; simp
end Go.Proofs.Ytadlnjglpigjmaa

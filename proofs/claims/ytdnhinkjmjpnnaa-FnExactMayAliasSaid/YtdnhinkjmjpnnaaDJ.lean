/- Cells: walks of cells and MayAlias of the program. -/
import Derived.Test.YtdnhinkjmjpnnaaDHC

import Derived.Test.YtdnhinkjmjpnnaaZ6

namespace Go.Proofs.Ytdnhinkjmjpnnaa

open Go.RowKit

/-- What the variable that a point sets reaches. -/
def cellV (L : List Pt) (i : Nat) (Y : Nat × Nat → Prop) (k : Nat) : Prop := ((ptAt L i).op = 2 ∧ k = i) ∨ (((ptAt L i).op = 3 ∨ (ptAt L i).op = 4 ∨ (ptAt L i).op = 5) ∧ Y ((ptAt L i).y.toNat, k))
theorem cellV_mono (L : List Pt) : MonoV (cellV L) := by
  rintro i Y Z h k (hk | ⟨ho, hy⟩)
  · exact .inl hk
  · exact .inr ⟨ho, h _ hy⟩
theorem pt_y {p : Pr} (hv : validP p = true) {i : Nat} (hi : i < (pts p).length) (ho : (ptAt (pts p) i).op = 3 ∨ (ptAt (pts p) i).op = 4 ∨ (ptAt (pts p) i).op = 5 ∨ (ptAt (pts p) i).op = 6) : ∃ y : Nat, (ptAt (pts p) i).y = y ∧ y < p.types.length := by
  have h := pt_ok hv hi
  rw [← ptAt_get hi] at h
  rcases h with h | h | h | h
  · omega
  · omega
  · omega
  · obtain ⟨_, y, _, hy, _, hl⟩ := simple_xy h ho
    exact ⟨y, hy, hl⟩
set_option maxRecDepth 100000 in
set_option maxHeartbeats 2000000 in
theorem cells1_any (p : Pr) (gb gp i : Nat) (O : Nat → Nat) (w : World) (hgp : w.cell? ⟨gp, 0, none⟩ = some (.pointer (some ⟨gb, 0, none⟩))) (hGA : GraphAt w p gb) (hv : validP p = true) (hi : i < (pts p).length) (hO : ∀ v, O v < 2 ^ 64) :
    Calls Try.prog 151 #[.int .i64 i, .agg (words O), .pointer (some ⟨gp, 0, none⟩)] w (Tells (cellV (pts p)) i O w) := by
  have hp : p.types.length ≤ 6 := valid_types hv
  have hl : (pts p).length ≤ 61 := pts_len hv
  have hy := pt_y hv hi
  obtain ⟨L, a3, n3, a4, n4, al, cl, hL, d0, d1, d2, hr1, hr2, hr3⟩ := hGA
  rw [← hL] at hi hl hy ⊢
  obtain ⟨b, po, rfl, an, cn, c0, c1, c2, c3, c4, -, -⟩ := hr3 i hi
  obtain ⟨q, eq⟩ : ∃ q, L[i] = q := ⟨_, rfl⟩
  rw [eq] at c0 c1 c2 c3 c4
  have hpa : ptAt L i = q := (ptAt_get hi).trans eq
  rw [hpa] at hy
  have HPA := Lib.hid hpa
  have HO := Lib.hid hO
  obtain ⟨nn, hnn⟩ : ∃ nn, q.next.length = nn := ⟨_, rfl⟩
  rw [hnn] at c4
  have hW0 : ∀ A, Words ((w.alloc (.cells (words O) 83)).alloc A) w.heap.size O := fun A => heap2_0 _ _ _
  have hgA : ∀ A, Gr w (w.alloc A) none := fun A => (Gr.refl _ _).alloc _
  have g2 := fun A => (hgA A).cell d2 (by simp)
  have gg := fun A => (hgA A).cell hgp (by simp)
  have k0 := fun A => (hgA A).cell c0 (by simp)
  have k1 := fun A => (hgA A).cell c1 (by simp)
  have k2 := fun A => (hgA A).cell c2 (by simp)
  have k3 := fun A => (hgA A).cell c3 (by simp)
  have k4 := fun A => (hgA A).cell c4 (by simp)
  have HW0 := Lib.hid hW0
  have hgr : ∀ A B, Gr w ((w.alloc A).alloc B) none := fun A B => ((Gr.refl _ _).alloc _).alloc _
  have HGR := Lib.hid hgr
  obtain ⟨o, ho⟩ : ∃ o, q.op = o := ⟨_, rfl⟩
  obtain ⟨y, hyy⟩ : ∃ y, q.y = y := ⟨_, rfl⟩
  rw [ho] at k0 hy
  rw [hyy] at k2 hy
  have HOP := Lib.hid ho
  have HYY := Lib.hid hyy
  clear hL d0 d1 d2 hr1 hr2 hr3 eq hpa hv hO hnn hW0 hgA c0 c1 c2 c3 c4 hgp hgr ho hyy
  by_cases h2 : o = 2
  · subst h2
    clear hy
    go_enter Try.func151, Try.ntmps151
    go_wp2_with fail
    go_ret
    refine ⟨2 ^ i, ret_int (by first | exact u64_pow (by omega) | simp), Nat.pow_lt_pow_right (by omega) (by omega), fun k => ?_, HGR.out _ _⟩
    unfold cellV
    rw [HPA.out, HOP.out, Nat.testBit_two_pow, decide_eq_true_eq]
    constructor
    · exact fun h => .inl ⟨rfl, h.symm⟩
    · rintro (h | h)
      · exact h.2.symm
      · omega
  by_cases h345 : o = 3 ∨ o = 4 ∨ o = 5
  · obtain ⟨yj, rfl, hyl⟩ := hy (by omega)
    have hy6 : yj < 6 := by omega
    have HT := Lib.hid (show ∀ k, (O yj).testBit k = true ↔ cellV L i (fun b => (O b.1).testBit b.2 = true) k from fun k => by
      unfold cellV
      rw [HPA.out, HOP.out, HYY.out]
      constructor
      · exact fun h => .inr ⟨h345, h⟩
      · rintro (h | h)
        · omega
        · exact h.2)
    have z := fun A => (HW0.out A).cell hy6
    have HLT := Lib.hid (HO.out yj)
    obtain ⟨V, hV⟩ : ∃ V, O yj = V := ⟨_, rfl⟩
    rw [hV] at z HT HLT
    clear hy hV
    rcases h345 with rfl | rfl | rfl
    all_goals
      go_enter Try.func151, Try.ntmps151
      go_wp2_with fail
      go_ret
      exact ⟨V, rfl, HLT.out, HT.out, HGR.out _ _⟩
  · have HT := Lib.hid (show ∀ k, (0 : Nat).testBit k = true ↔ cellV L i (fun b => (O b.1).testBit b.2 = true) k from fun k => by
      unfold cellV
      rw [HPA.out, HOP.out, Nat.zero_testBit]
      constructor
      · intro h; cases h
      · rintro (h | h)
        · exact absurd h.1 h2
        · exact absurd h.1 h345)
    have h3 : o ≠ 3 := fun h => h345 (.inl h)
    have h4 : o ≠ 4 := fun h => h345 (.inr (.inl h))
    have h5 : o ≠ 5 := fun h => h345 (.inr (.inr h))
    have e2 : (o == 2) = false := beq_eq_false_iff_ne.2 h2
    have e3 : (o == 3) = false := beq_eq_false_iff_ne.2 h3
    have e4 : (o == 4) = false := beq_eq_false_iff_ne.2 h4
    have e5 : (o == 5) = false := beq_eq_false_iff_ne.2 h5
    clear hy h345 h2 h3 h4 h5
    go_enter Try.func151, Try.ntmps151
    go_wp2_with fail
    go_ret
    exact ⟨0, rfl, by omega, HT.out, HGR.out _ _⟩
set_option maxRecDepth 100000 in
set_option maxHeartbeats 1000000 in
theorem cells_any (p : Pr) (gb : Nat) (w : World) (hGA : GraphAt w p gb) (hv : validP p = true) :
    Calls Try.prog 108 #[.pointer (some ⟨gb, 0, none⟩)] w (Tracked p (cellV (pts p)) w) := by
  have hg1 : ∀ o, Gr w (w.alloc o) none := fun o => (Gr.refl _ _).alloc _
  have HC := Lib.hid (show ∀ (i : Nat) (O : Nat → Nat) (w' : World), Gr (w.alloc (.cells #[.pointer (some ⟨gb, 0, none⟩)] 77)) w' none → i < (pts p).length → 0 ≤ setOf (ptAt (pts p) i).op (ptAt (pts p) i).x → (∀ v, O v < 2 ^ 64) → Calls Try.prog 151 #[.int .i64 i, .agg (words O), .pointer (some ⟨w.heap.size, 0, none⟩)] w' (Tells (cellV (pts p)) i O w') from
    fun i O w' hg hi _ hO => cells1_any p gb w.heap.size i O w' (hg.cell (cell_of_row _ _ _ _ _ _ (heap1_0 _ _)) (by simp)) (hGA.gr ((hg1 _).trans0 hg)) hv hi hO)
  go_enter Try.func108, Try.ntmps108
  go_wp2_with fail
  refine (trackedC_any p gb w.heap.size (cellV (pts p)) (cellV_mono _) _ (hGA.gr (hg1 _)) hv HC.out).mono ?_
  rintro e w1 ⟨g, W, rfl, hF, h64, ht, hg⟩
  have HF := Lib.hid hF
  have HT := Lib.hid ht
  have H64 := Lib.hid h64
  clear hF ht h64
  go_wp2_with fail
  go_ret
  exact ⟨g, W, rfl, HF.out, H64.out, HT.out, (hg1 _).trans0 hg⟩
theorem valid_pos' {p : Pr} (h : 0 < (ptsOf p).length) : validP p = true := by
  cases hv : validP p with
  | true => rfl
  | false => unfold ptsOf at h; rw [hv] at h; simp at h
theorem graph_one' {p : Pr} {a : Int} : graphOk p [a] = (decide (0 ≤ a) && decide (a < (ptsOf p).length)) := by
  unfold graphOk ptsOf
  cases hv : validP p with
  | true =>
    simp only [within, List.all_cons, List.all_nil, Bool.and_true, Bool.true_and, if_pos]
    congr 1
    apply decide_eq_decide.2
    omega
  | false =>
    rw [Bool.false_and, if_neg (by simp)]
    symm
    rw [Bool.and_eq_false_iff, decide_eq_false_iff_not, decide_eq_false_iff_not]
    simp only [List.length_nil]
    omega
open Classical in

/-- What MayAlias says. -/
noncomputable def mayAlias (p : Pr) (a v u : Int) : Bool := hasPoint p a v && (hasPoint p a u && decide (∃ k, Trk p (cellV (pts p)) a.toNat (v.toNat, k) ∧ Trk p (cellV (pts p)) a.toNat (u.toNat, k)))
theorem hasPoint_pts {p : Pr} {a v : Int} (h : hasPoint p a v = true) : validP p = true ∧ ∃ i j : Nat, a = i ∧ v = j ∧ i < (pts p).length ∧ j < p.types.length := by
  have hin : (0 ≤ a ∧ a < (ptsOf p).length) ∧ 0 ≤ v ∧ v < p.types.length := by unfold hasPoint at h; simp at h; omega
  have hv : validP p = true := valid_pos' (by omega)
  have hp : ptsOf p = pts p := by unfold ptsOf; rw [if_pos hv]
  rw [hp] at hin
  exact ⟨hv, a.toNat, v.toNat, by omega, by omega, by omega, by omega⟩
theorem hasPoint_of {p : Pr} (hv : validP p = true) {i j : Nat} (hi : i < (pts p).length) (hj : j < p.types.length) : hasPoint p i j = true := by
  have hp : ptsOf p = pts p := by unfold ptsOf; rw [if_pos hv]
  unfold hasPoint; rw [hp]; simp [hi, hj]
theorem mayAlias_in {p : Pr} (hv : validP p = true) {i j u : Nat} (hi : i < (pts p).length) (hj : j < p.types.length) (hu : u < p.types.length) : mayAlias p i j u = true ↔ ∃ k, Trk p (cellV (pts p)) i (j, k) ∧ Trk p (cellV (pts p)) i (u, k) := by
  unfold mayAlias; rw [hasPoint_of hv hi hj, hasPoint_of hv hi hu]; simp
set_option maxRecDepth 100000 in
set_option maxHeartbeats 2000000 in
theorem implMayAlias_any (p : Pr) (a v u : Int) (at' ab : Option Addr) (ct cb : Nat) (w : World) (hT : InAt w Any p.types at') (hB : SlAt w Any p.body ab) (hs : p.types.length ≤ 1048576) (hc : p.body.length ≤ 1048576) :
    Calls Try.prog 54 #[.agg #[.slice at' p.types.length ct, .slice ab p.body.length cb], .int .i64 a, .int .i64 v, .int .i64 u] w fun e w' => e = .returned (.bool (mayAlias p a v u)) ∧ Gr w w' none := by
  have hg1 : ∀ o o', Gr w ((w.alloc o).alloc o') none := fun o o' => ((Gr.refl _ _).alloc _).alloc _
  go_enter Try.func54, Try.ntmps54
  go_wp2_with fail
  refine (graphOf_any p [a] at' ab _ ct cb _ _ (hT.gr0 (hg1 _ _)) (hB.gr0 (hg1 _ _)) (inAt_one _ _ _) hs hc (by simp)).mono ?_
  rintro e w1 ⟨hg, hif⟩
  have hG1 : Gr w w1 none := (hg1 _ _).trans0 hg
  clear hg
  rw [graph_one'] at hif
  by_cases hok : 0 ≤ a ∧ a < (ptsOf p).length
  · rw [if_pos (by simp [hok])] at hif
    obtain ⟨gb, rfl, hgb, hGA⟩ := hif
    have hv : validP p = true := valid_pos' (by omega)
    have hp : ptsOf p = pts p := by unfold ptsOf; rw [if_pos hv]
    rw [hp] at hok
    obtain ⟨i, rfl⟩ := Int.eq_ofNat_of_zero_le hok.1
    have hi : i < (pts p).length := by omega
    have HV := Lib.hid hv
    have HPP := Lib.hid hp
    have h6 := valid_types hv
    have hl : (pts p).length ≤ 61 := pts_len hv
    clear hok hv hp
    go_wp2_with fail
    refine (isVar_any p gb v _ hGA hs).mono ?_
    rw [within_var]
    rintro e w2 ⟨rfl, rfl⟩
    cases hw : (decide (0 ≤ v) && decide (v < p.types.length)) with
    | false =>
      have HO := Lib.hid (show mayAlias p i v u = false by
        unfold mayAlias hasPoint
        rw [Bool.and_eq_false_iff] at hw ⊢
        exact .inl (by rcases hw with hw | hw <;> rw [hw] <;> simp))
      clear hw
      go_wp2_with fail
      go_ret
      rw [HO.out]
      exact ⟨rfl, hG1⟩
    | true =>
      simp only [Bool.and_eq_true, decide_eq_true_eq] at hw
      obtain ⟨j, rfl⟩ := Int.eq_ofNat_of_zero_le hw.1
      have hj : j < p.types.length := by omega
      clear hw
      go_wp2_with fail
      refine (isVar_any p gb u _ hGA hs).mono ?_
      rw [within_var]
      rintro e w2 ⟨rfl, rfl⟩
      cases hw : (decide (0 ≤ u) && decide (u < p.types.length)) with
      | false =>
        have HO := Lib.hid (show mayAlias p i j u = false by
          unfold mayAlias hasPoint
          rw [Bool.and_eq_false_iff] at hw ⊢
          exact .inr (by rcases hw with hw | hw <;> rw [hw] <;> simp))
        clear hw
        go_wp2_with fail
        go_ret
        rw [HO.out]
        exact ⟨rfl, hG1⟩
      | true =>
        simp only [Bool.and_eq_true, decide_eq_true_eq] at hw
        obtain ⟨k, rfl⟩ := Int.eq_ofNat_of_zero_le hw.1
        have hk : k < p.types.length := by omega
        have hj6 : j < 6 := by omega
        have hk6 : k < 6 := by omega
        clear hw
        go_wp2_with fail
        refine (cells_any p gb _ hGA HV.out).mono ?_
        rintro e w3 ⟨g, W, rfl, hF, h64, ht, hg3⟩
        have t0 := hF.cell hi (v := 0) (by omega)
        have t1 := hF.cell hi (v := 1) (by omega)
        have t2 := hF.cell hi (v := 2) (by omega)
        have t3 := hF.cell hi (v := 3) (by omega)
        have t4 := hF.cell hi (v := 4) (by omega)
        have t5 := hF.cell hi (v := 5) (by omega)
        simp only [Nat.add_zero] at t0
        have HO := Lib.hid (show mayAlias p i j k = true ↔ W i j &&& W i k ≠ 0 by
          rw [mayAlias_in HV.out hi hj hk]
          constructor
          · rintro ⟨x, h1, h2⟩ h0
            have e1 := (ht i (j, x)).2 h1
            have e2 := (ht i (k, x)).2 h2
            unfold tb2 at e1 e2
            have := congrArg (fun z => z.testBit x) h0
            simp only [Nat.testBit_and, e1, e2, Nat.zero_testBit] at this
            cases this
          · intro h0
            obtain ⟨x, _, hx⟩ := bit_ne (m := 64) (Nat.and_lt_two_pow _ (h64 i k)) (b := 0) (by omega) h0
            rw [Nat.testBit_and, Nat.zero_testBit] at hx
            refine ⟨x, (ht i (j, x)).1 ?_, (ht i (k, x)).1 ?_⟩
            · unfold tb2; cases h : (W i j).testBit x with
              | true => rfl
              | false => rw [h] at hx; simp at hx
            · unfold tb2; cases h : (W i k).testBit x with
              | true => rfl
              | false => rw [h] at hx; simp at hx)
        have H1 := Lib.hid (h64 i j)
        have H2 := Lib.hid (h64 i k)
        have hand : bits BinOp.and .u64 (W i j : Nat) (W i k : Nat) = ((W i j &&& W i k : Nat) : Int) := u64_and H1.out H2.out
        obtain ⟨O, hO⟩ : ∃ O, W i = O := ⟨_, rfl⟩
        rw [hO] at t0 t1 t2 t3 t4 t5 HO hand
        obtain ⟨n, hn⟩ : ∃ n, (pts p).length = n := ⟨_, rfl⟩
        rw [hn] at hi ⊢
        have hWn : Words (w3.alloc (.cells #[.int .u64 (O 0 : Nat), .int .u64 (O 1 : Nat), .int .u64 (O 2 : Nat), .int .u64 (O 3 : Nat), .int .u64 (O 4 : Nat), .int .u64 (O 5 : Nat)] 83)) w3.heap.size O := heap1_0 _ _
        have cj := hWn.cell hj6
        have ck := hWn.cell hk6
        obtain ⟨X, hX⟩ : ∃ X, O j &&& O k = X := ⟨_, rfl⟩
        rw [hX] at HO hand
        have HM := Lib.hid (show ((X : Int) != 0) = mayAlias p i j k by
          rw [Bool.eq_iff_iff, HO.out]; simp)
        clear hF h64 ht hO hn hWn hX hl HO
        go_wp2_with fail
        go_region
        all_goals
          go_wp2_with fail
          go_ret
          exact ⟨by rw [← HM.out]; rfl, ((hG1.trans0 hg3).alloc _).drew⟩
  · rw [if_neg (by simp; omega)] at hif
    subst hif
    have HO := Lib.hid (show mayAlias p a v u = false by
      unfold mayAlias hasPoint
      rw [Bool.and_eq_false_iff]
      refine .inl ?_
      rw [Bool.and_assoc, Bool.and_eq_false_iff]
      by_cases h : 0 ≤ a
      · exact .inl (by simp; omega)
      · exact .inl (by simp; omega))
    clear hok
    go_wp2_with fail
    go_ret
    rw [HO.out]
    exact ⟨rfl, hG1⟩
end Go.Proofs.Ytdnhinkjmjpnnaa

/- What variables can have: walks of the functions of numbers and setters, and of CellsOf, SettersOf, NumbersOf, NumberOf of the program. -/
import Derived.Test.YtadlnjglpigjmaaDJ

import Derived.Test.YtadlnjglpigjmaaDHN

import Derived.Test.YtadlnjglpigjmaaDHS

namespace Go.Proofs.Ytadlnjglpigjmaa

open Go.RowKit

/-- The numbers that a point gives, and the point itself. -/
def numV (L : List Pt) (i : Nat) (Y : Nat × Nat → Prop) (k : Nat) : Prop := ((ptAt L i).op = 1 ∧ (k : Int) = (ptAt L i).n) ∨ ((ptAt L i).op = 3 ∧ Y ((ptAt L i).y.toNat, k)) ∨ ((ptAt L i).op = 6 ∧ k < 10)
def setV (i : Nat) (_ : Nat × Nat → Prop) (k : Nat) : Prop := k = i
theorem numV_mono (L : List Pt) : MonoV (numV L) := by
  rintro i Y Z h k (hk | ⟨ho, hy⟩ | hk)
  · exact .inl hk
  · exact .inr (.inl ⟨ho, h _ hy⟩)
  · exact .inr (.inr hk)
theorem setV_mono : MonoV setV := fun _ _ _ _ _ h => h
theorem pt_n {p : Pr} (hv : validP p = true) {i : Nat} (hi : i < (pts p).length) (ho : (ptAt (pts p) i).op = 1) : ∃ n : Nat, (ptAt (pts p) i).n = n ∧ n < 10 := by
  have h := pt_ok hv hi
  rw [← ptAt_get hi] at h
  rcases h with h | h | h | h
  · omega
  · omega
  · omega
  · rw [ho] at h
    have := simple_n h
    exact ⟨(ptAt (pts p) i).n.toNat, by omega, by omega⟩
set_option maxRecDepth 100000 in
set_option maxHeartbeats 1000000 in
theorem setters1_any (i : Nat) (O : Nat → Nat) (w : World) (hi : i < 61) :
    Calls Try.prog 107 #[.int .i64 i, .agg (words O)] w (Tells setV i O w) := by
  have hgr : ∀ A, Gr w (w.alloc A) none := fun A => (Gr.refl _ _).alloc _
  go_enter Try.func107, Try.ntmps107
  go_wp2_with fail
  go_ret
  refine ⟨2 ^ i, ret_int (by first | exact u64_pow (by omega) | simp), Nat.pow_lt_pow_right (by omega) (by omega), fun k => ?_, hgr _⟩
  unfold setV
  rw [Nat.testBit_two_pow, decide_eq_true_eq]
  exact ⟨fun h => h.symm, fun h => h.symm⟩
set_option maxRecDepth 100000 in
set_option maxHeartbeats 2000000 in
theorem numbers1_any (p : Pr) (gb gp i : Nat) (O : Nat → Nat) (w : World) (hgp : w.cell? ⟨gp, 0, none⟩ = some (.pointer (some ⟨gb, 0, none⟩))) (hGA : GraphAt w p gb) (hv : validP p = true) (hi : i < (pts p).length) (hO : ∀ v, O v < 2 ^ 64) :
    Calls Try.prog 82 #[.int .i64 i, .agg (words O), .pointer (some ⟨gp, 0, none⟩)] w (Tells (numV (pts p)) i O w) := by
  have hp : p.types.length ≤ 6 := valid_types hv
  have hl : (pts p).length ≤ 61 := pts_len hv
  have hy := pt_y hv hi
  have hnn1 := pt_n hv hi
  obtain ⟨L, a3, n3, a4, n4, al, cl, hL, d0, d1, d2, hr1, hr2, hr3⟩ := hGA
  rw [← hL] at hi hl hy hnn1 ⊢
  obtain ⟨b, po, rfl, an, cn, c0, c1, c2, c3, c4, -, -⟩ := hr3 i hi
  obtain ⟨q, eq⟩ : ∃ q, L[i] = q := ⟨_, rfl⟩
  rw [eq] at c0 c1 c2 c3 c4
  have hpa : ptAt L i = q := (ptAt_get hi).trans eq
  rw [hpa] at hy hnn1
  have HPA := Lib.hid hpa
  have HO := Lib.hid hO
  obtain ⟨nn, hnn⟩ : ∃ nn, q.next.length = nn := ⟨_, rfl⟩
  rw [hnn] at c4
  have hW0 : ∀ A, Words ((w.alloc (.cells (words O) 82)).alloc A) w.heap.size O := fun A => heap2_0 _ _ _
  have hgA : ∀ A, Gr w (w.alloc A) none := fun A => (Gr.refl _ _).alloc _
  have g2 := fun A => (hgA A).cell d2 (by simp)
  have gg := fun A => (hgA A).cell hgp (by simp)
  have k0 := fun A => (hgA A).cell c0 (by simp)
  have k1 := fun A => (hgA A).cell c1 (by simp)
  have k2 := fun A => (hgA A).cell c2 (by simp)
  have k3 := fun A => (hgA A).cell c3 (by simp)
  have k4 := fun A => (hgA A).cell c4 (by simp)
  have HW0 := Lib.hid hW0
  have hgr : ∀ A B, Gr w ((w.alloc A).alloc B) none := fun A B => ((Gr.refl _ _).alloc _).alloc _
  have HGR := Lib.hid hgr
  obtain ⟨o, ho⟩ : ∃ o, q.op = o := ⟨_, rfl⟩
  obtain ⟨y, hyy⟩ : ∃ y, q.y = y := ⟨_, rfl⟩
  obtain ⟨nv, hnv⟩ : ∃ nv, q.n = nv := ⟨_, rfl⟩
  rw [ho] at k0 hy hnn1
  rw [hyy] at k2 hy
  rw [hnv] at k3 hnn1
  have HOP := Lib.hid ho
  have HYY := Lib.hid hyy
  have HNV := Lib.hid hnv
  clear hL d0 d1 d2 hr1 hr2 hr3 eq hpa hv hO hnn hW0 hgA c0 c1 c2 c3 c4 hgp hgr ho hyy hnv
  by_cases h1 : o = 1
  · subst h1
    obtain ⟨nj, rfl, hnj⟩ := hnn1 rfl
    clear hy hnn1
    go_enter Try.func82, Try.ntmps82
    go_wp2_with fail
    go_ret
    refine ⟨2 ^ nj, ret_int (by first | exact u64_pow (by omega) | simp), Nat.pow_lt_pow_right (by omega) (by omega), fun k => ?_, HGR.out _ _⟩
    unfold numV
    rw [HPA.out, HOP.out, HNV.out, Nat.testBit_two_pow, decide_eq_true_eq]
    constructor
    · exact fun h => .inl ⟨rfl, by omega⟩
    · rintro (h | h | h)
      · omega
      · omega
      · omega
  by_cases h3 : o = 3
  · subst h3
    obtain ⟨yj, rfl, hyl⟩ := hy (by omega)
    have hy6 : yj < 6 := by omega
    have HT := Lib.hid (show ∀ k, (O yj).testBit k = true ↔ numV L i (fun b => (O b.1).testBit b.2 = true) k from fun k => by
      unfold numV
      rw [HPA.out, HOP.out, HYY.out]
      constructor
      · exact fun h => .inr (.inl ⟨rfl, h⟩)
      · rintro (h | h | h)
        · omega
        · exact h.2
        · omega)
    have z := fun A => (HW0.out A).cell hy6
    have HLT := Lib.hid (HO.out yj)
    obtain ⟨V, hV⟩ : ∃ V, O yj = V := ⟨_, rfl⟩
    rw [hV] at z HT HLT
    clear hy hnn1 hV h1
    go_enter Try.func82, Try.ntmps82
    go_wp2_with fail
    go_ret
    exact ⟨V, rfl, HLT.out, HT.out, HGR.out _ _⟩
  by_cases h6 : o = 6
  · subst h6
    clear hy hnn1 h1 h3
    go_enter Try.func82, Try.ntmps82
    go_wp2_with fail
    go_ret
    refine ⟨1023, rfl, by omega, fun k => ?_, HGR.out _ _⟩
    unfold numV
    rw [HPA.out, HOP.out, show (1023 : Nat) = 2 ^ 10 - 1 from rfl, Nat.testBit_two_pow_sub_one, decide_eq_true_eq]
    constructor
    · exact fun h => .inr (.inr ⟨rfl, h⟩)
    · rintro (h | h | h)
      · omega
      · omega
      · exact h.2
  · have HT := Lib.hid (show ∀ k, (0 : Nat).testBit k = true ↔ numV L i (fun b => (O b.1).testBit b.2 = true) k from fun k => by
      unfold numV
      rw [HPA.out, HOP.out, Nat.zero_testBit]
      constructor
      · intro h; cases h
      · rintro (h | h | h)
        · exact absurd h.1 h1
        · exact absurd h.1 h3
        · exact absurd h.1 h6)
    have e1 : (o == 1) = false := beq_eq_false_iff_ne.2 h1
    have e3 : (o == 3) = false := beq_eq_false_iff_ne.2 h3
    have e6 : (o == 6) = false := beq_eq_false_iff_ne.2 h6
    clear hy hnn1 h1 h3 h6
    go_enter Try.func82, Try.ntmps82
    go_wp2_with fail
    go_ret
    exact ⟨0, rfl, by omega, HT.out, HGR.out _ _⟩
set_option maxRecDepth 100000 in
set_option maxHeartbeats 1000000 in
theorem setters_any (p : Pr) (gb : Nat) (w : World) (hGA : GraphAt w p gb) (hv : validP p = true) :
    Calls Try.prog 76 #[.pointer (some ⟨gb, 0, none⟩)] w (Tracked p setV w) := by
  have hl : (pts p).length ≤ 61 := pts_len hv
  go_enter Try.func76, Try.ntmps76
  go_wp2_with fail
  refine (trackedS_any p gb setV setV_mono _ hGA hv (fun i O w' _ hi _ _ => setters1_any i O w' (by omega))).mono ?_
  rintro e w1 ⟨g, W, rfl, hF, h64, ht, hg⟩
  have HF := Lib.hid hF
  have HT := Lib.hid ht
  have H64 := Lib.hid h64
  clear hF ht h64
  go_wp2_with fail
  go_ret
  exact ⟨g, W, rfl, HF.out, H64.out, HT.out, hg⟩
/-- What CellsOf and SettersOf say. -/
noncomputable def trkOf (p : Pr) (val : Nat → (Nat × Nat → Prop) → Nat → Prop) (a v : Int) : List Int := if hasPoint p a v = true then coll (trkB p val a.toNat v.toNat) (pts p).length else []
theorem trkOf_in {p : Pr} {val : Nat → (Nat × Nat → Prop) → Nat → Prop} {i j : Nat} (h : hasPoint p i j = true) : trkOf p val i j = coll (trkB p val i j) (pts p).length := by unfold trkOf; rw [if_pos h]; rfl
theorem trkOf_out {p : Pr} {val : Nat → (Nat × Nat → Prop) → Nat → Prop} {a v : Int} (h : hasPoint p a v = false) : trkOf p val a v = [] := by unfold trkOf; rw [h]; rfl
theorem trkOf_len (p : Pr) (val : Nat → (Nat × Nat → Prop) → Nat → Prop) (a v : Int) : (trkOf p val a v).length ≤ 1048576 := by
  unfold trkOf
  split
  · rename_i h
    have := coll_len (trkB p val a.toNat v.toNat) (pts p).length
    have := pts_len (hasPoint_pts h).1
    omega
  · simp
noncomputable def cellsOf (p : Pr) (a v : Int) : List Int := trkOf p (cellV (pts p)) a v
noncomputable def settersOf (p : Pr) (a v : Int) : List Int := trkOf p setV a v
theorem cellsOf_len (p : Pr) (a v : Int) : (cellsOf p a v).length ≤ 1048576 := trkOf_len _ _ _ _
theorem settersOf_len (p : Pr) (a v : Int) : (settersOf p a v).length ≤ 1048576 := trkOf_len _ _ _ _
noncomputable def numsOf (p : Pr) (a v : Int) : List Int := if hasPoint p a v = true ∧ p.types.getD v.toNat 0 = 1 then coll (trkB p (numV (pts p)) a.toNat v.toNat) 10 else []
theorem numsOf_in {p : Pr} {i j : Nat} (h : hasPoint p i j = true) (ht : p.types.getD j 0 = 1) : numsOf p i j = coll (trkB p (numV (pts p)) i j) 10 := by unfold numsOf; rw [if_pos ⟨h, by simpa using ht⟩]; rfl
theorem numsOf_out {p : Pr} {a v : Int} (h : hasPoint p a v = false) : numsOf p a v = [] := by unfold numsOf; rw [if_neg (by rw [h]; simp)]
theorem numsOf_out2 {p : Pr} {i j : Nat} (ht : p.types.getD j 0 ≠ 1) : numsOf p i j = [] := by unfold numsOf; rw [if_neg (fun h => ht (by simpa using h.2))]
theorem numsOf_len (p : Pr) (a v : Int) : (numsOf p a v).length ≤ 10 := by
  unfold numsOf
  split
  · exact coll_len _ _
  · simp
def numOf (l : List Int) : Int × Bool := match l with | [x] => (x, true) | _ => (0, false)
theorem hasPoint_no1 {p : Pr} {a v : Int} (h : ¬ (0 ≤ a ∧ a < (ptsOf p).length)) : hasPoint p a v = false := by
  unfold hasPoint
  rw [Bool.and_assoc, Bool.and_eq_false_iff]
  exact .inl (by simp; omega)
theorem hasPoint_no2 {p : Pr} {a v : Int} (h : (decide (0 ≤ v) && decide (v < p.types.length)) = false) : hasPoint p a v = false := by
  unfold hasPoint
  rw [Bool.and_eq_false_iff] at h
  rcases h with h | h <;> rw [h] <;> simp
theorem trk_small {p : Pr} {val : Nat → (Nat × Nat → Prop) → Nat → Prop} (n : Nat) (hval : ∀ i, i < (pts p).length → ∀ Y : Nat × Nat → Prop, (∀ b, Y b → b.2 < n) → ∀ k, val i Y k → k < n) {i v k : Nat} (h : trkB p val i v k = true) : k < n := by
  have := (trkB_iff.1 h) (fun _ b => b.2 < n) (by
    rintro i b (⟨_, hb⟩ | ⟨j, hj, hn, hb⟩)
    · exact hb.elim
    · unfold trkA at hb
      split at hb
      · exact hval j hj _ (fun _ h => h) _ hb
      · exact hb.2)
  exact this
theorem cells_small {p : Pr} {i v k : Nat} (h : trkB p (cellV (pts p)) i v k = true) : k < (pts p).length :=
  trk_small _ (fun i hi Y hY k hk => by
    rcases hk with ⟨_, rfl⟩ | ⟨_, hy⟩
    · exact hi
    · exact hY _ hy) h
theorem setters_small {p : Pr} {i v k : Nat} (h : trkB p setV i v k = true) : k < (pts p).length :=
  trk_small _ (fun i hi Y hY k hk => by unfold setV at hk; omega) h
theorem nums_small {p : Pr} (hv : validP p = true) {i v k : Nat} (h : trkB p (numV (pts p)) i v k = true) : k < 10 :=
  trk_small _ (fun i hi Y hY k hk => by
    rcases hk with ⟨ho, hk⟩ | ⟨_, hy⟩ | ⟨_, hk⟩
    · obtain ⟨n, hn, hn2⟩ := pt_n hv hi ho
      omega
    · exact hY _ hy
    · exact hk) h
set_option maxRecDepth 100000 in
set_option maxHeartbeats 1000000 in
theorem implCellsOf_any (p : Pr) (a v : Int) (at' ab : Option Addr) (ct cb : Nat) (w : World) (hT : InAt w Any p.types at') (hB : SlAt w Any p.body ab) (hs : p.types.length ≤ 1048576) (hc : p.body.length ≤ 1048576) :
    Calls Try.prog 43 #[.agg #[.slice at' p.types.length ct, .slice ab p.body.length cb], .int .i64 a, .int .i64 v] w (HandI (cellsOf p a v) w) := by
  have hg1 : ∀ o o', Gr w ((w.alloc o).alloc o') none := fun o o' => ((Gr.refl _ _).alloc _).alloc _
  go_enter Try.func43, Try.ntmps43
  go_wp2_with fail
  refine (graphOf_any p [a] at' ab _ ct cb _ _ (hT.gr0 (hg1 _ _)) (hB.gr0 (hg1 _ _)) (inAt_one _ _ _) hs hc (by simp)).mono ?_
  rintro e w1 ⟨hg, hif⟩
  have hG1 : Gr w w1 none := (hg1 _ _).trans0 hg
  clear hg
  rw [graph_one'] at hif
  by_cases hok : 0 ≤ a ∧ a < (ptsOf p).length
  · rw [if_pos (by simp [hok])] at hif
    obtain ⟨gb, rfl, hgb, hGA⟩ := hif
    have hv : validP p = true := valid_pos' (by omega)
    have hp : ptsOf p = pts p := by unfold ptsOf; rw [if_pos hv]
    rw [hp] at hok
    obtain ⟨i, rfl⟩ := Int.eq_ofNat_of_zero_le hok.1
    have hi : i < (pts p).length := by omega
    have HV := Lib.hid hv
    have h6 := valid_types hv
    have hl : (pts p).length ≤ 61 := pts_len hv
    clear hok hv hp
    go_wp2_with fail
    refine (isVar_any p gb v _ hGA hs).mono ?_
    rw [within_var]
    rintro e w2 ⟨rfl, rfl⟩
    cases hw : (decide (0 ≤ v) && decide (v < p.types.length)) with
    | false =>
      have HO := Lib.hid (show cellsOf p i v = [] from trkOf_out (hasPoint_no2 hw))
      clear hw
      go_wp2_with fail
      go_ret
      rw [HO.out]
      exact HandI.nil _ _ hG1
    | true =>
      simp only [Bool.and_eq_true, decide_eq_true_eq] at hw
      obtain ⟨j, rfl⟩ := Int.eq_ofNat_of_zero_le hw.1
      have hj : j < p.types.length := by omega
      have hj6 : j < 6 := by omega
      clear hw
      go_wp2_with fail
      refine (cells_any p gb _ hGA HV.out).mono ?_
      rintro e w3 ⟨g, W, rfl, hF, h64, ht, hg3⟩
      have tj := hF.cell hi hj6
      have HO := Lib.hid (show coll (W i j).testBit 64 = cellsOf p i j from by
        unfold cellsOf
        rw [trkOf_in (hasPoint_of HV.out hi hj), ← coll_up (F := trkB p (cellV (pts p)) i j) (fun k hk => ?_) 64 (by omega)]
        · refine coll_congr fun k _ => ?_
          rw [Bool.eq_iff_iff, trkB_iff]
          exact ht i (j, k)
        · cases h : trkB p (cellV (pts p)) i j k with
          | false => rfl
          | true => have := cells_small h; omega)
      have H1 := Lib.hid (h64 i j)
      obtain ⟨x, hx⟩ : ∃ x, W i j = x := ⟨_, rfl⟩
      rw [hx] at tj HO H1
      obtain ⟨n, hn⟩ : ∃ n, (pts p).length = n := ⟨_, rfl⟩
      rw [hn] at hi ⊢
      clear hF h64 ht hx hn hl
      go_wp2_with fail
      refine (loanBits_any x _ H1.out).mono ?_
      rw [HO.out]
      intro e w4 hh
      have hhh := HandI.aft hh (hG1.trans0 hg3)
      obtain ⟨a4, c4, rfl, -⟩ := hh
      have HH := Lib.hid hhh
      clear hhh
      go_wp2_with fail
      go_ret
      exact HH.out
  · rw [if_neg (by simp; omega)] at hif
    subst hif
    have HO := Lib.hid (show cellsOf p a v = [] from trkOf_out (hasPoint_no1 hok))
    clear hok
    go_wp2_with fail
    go_ret
    rw [HO.out]
    exact HandI.nil _ _ hG1
set_option maxRecDepth 100000 in
set_option maxHeartbeats 1000000 in
theorem implSettersOf_any (p : Pr) (a v : Int) (at' ab : Option Addr) (ct cb : Nat) (w : World) (hT : InAt w Any p.types at') (hB : SlAt w Any p.body ab) (hs : p.types.length ≤ 1048576) (hc : p.body.length ≤ 1048576) :
    Calls Try.prog 37 #[.agg #[.slice at' p.types.length ct, .slice ab p.body.length cb], .int .i64 a, .int .i64 v] w (HandI (settersOf p a v) w) := by
  have hg1 : ∀ o o', Gr w ((w.alloc o).alloc o') none := fun o o' => ((Gr.refl _ _).alloc _).alloc _
  go_enter Try.func37, Try.ntmps37
  go_wp2_with fail
  refine (graphOf_any p [a] at' ab _ ct cb _ _ (hT.gr0 (hg1 _ _)) (hB.gr0 (hg1 _ _)) (inAt_one _ _ _) hs hc (by simp)).mono ?_
  rintro e w1 ⟨hg, hif⟩
  have hG1 : Gr w w1 none := (hg1 _ _).trans0 hg
  clear hg
  rw [graph_one'] at hif
  by_cases hok : 0 ≤ a ∧ a < (ptsOf p).length
  · rw [if_pos (by simp [hok])] at hif
    obtain ⟨gb, rfl, hgb, hGA⟩ := hif
    have hv : validP p = true := valid_pos' (by omega)
    have hp : ptsOf p = pts p := by unfold ptsOf; rw [if_pos hv]
    rw [hp] at hok
    obtain ⟨i, rfl⟩ := Int.eq_ofNat_of_zero_le hok.1
    have hi : i < (pts p).length := by omega
    have HV := Lib.hid hv
    have h6 := valid_types hv
    have hl : (pts p).length ≤ 61 := pts_len hv
    clear hok hv hp
    go_wp2_with fail
    refine (isVar_any p gb v _ hGA hs).mono ?_
    rw [within_var]
    rintro e w2 ⟨rfl, rfl⟩
    cases hw : (decide (0 ≤ v) && decide (v < p.types.length)) with
    | false =>
      have HO := Lib.hid (show settersOf p i v = [] from trkOf_out (hasPoint_no2 hw))
      clear hw
      go_wp2_with fail
      go_ret
      rw [HO.out]
      exact HandI.nil _ _ hG1
    | true =>
      simp only [Bool.and_eq_true, decide_eq_true_eq] at hw
      obtain ⟨j, rfl⟩ := Int.eq_ofNat_of_zero_le hw.1
      have hj : j < p.types.length := by omega
      have hj6 : j < 6 := by omega
      clear hw
      go_wp2_with fail
      refine (setters_any p gb _ hGA HV.out).mono ?_
      rintro e w3 ⟨g, W, rfl, hF, h64, ht, hg3⟩
      have tj := hF.cell hi hj6
      have HO := Lib.hid (show coll (W i j).testBit 64 = settersOf p i j from by
        unfold settersOf
        rw [trkOf_in (hasPoint_of HV.out hi hj), ← coll_up (F := trkB p setV i j) (fun k hk => ?_) 64 (by omega)]
        · refine coll_congr fun k _ => ?_
          rw [Bool.eq_iff_iff, trkB_iff]
          exact ht i (j, k)
        · cases h : trkB p setV i j k with
          | false => rfl
          | true => have := setters_small h; omega)
      have H1 := Lib.hid (h64 i j)
      obtain ⟨x, hx⟩ : ∃ x, W i j = x := ⟨_, rfl⟩
      rw [hx] at tj HO H1
      obtain ⟨n, hn⟩ : ∃ n, (pts p).length = n := ⟨_, rfl⟩
      rw [hn] at hi ⊢
      clear hF h64 ht hx hn hl
      go_wp2_with fail
      refine (loanBits_any x _ H1.out).mono ?_
      rw [HO.out]
      intro e w4 hh
      have hhh := HandI.aft hh (hG1.trans0 hg3)
      obtain ⟨a4, c4, rfl, -⟩ := hh
      have HH := Lib.hid hhh
      clear hhh
      go_wp2_with fail
      go_ret
      exact HH.out
  · rw [if_neg (by simp; omega)] at hif
    subst hif
    have HO := Lib.hid (show settersOf p a v = [] from trkOf_out (hasPoint_no1 hok))
    clear hok
    go_wp2_with fail
    go_ret
    rw [HO.out]
    exact HandI.nil _ _ hG1
end Go.Proofs.Ytadlnjglpigjmaa

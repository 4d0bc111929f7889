/- What a point sets: walks of SetBy, in the program and in the reference. -/
import Derived.Test.YtpnaeijkllmihaaP3

namespace Go.Proofs.Ytpnaeijkllmihaa

open Go.RowKit

/-- The variable that a point sets, or -1. -/
def setOf (op x : Int) : Int := if 1 ≤ op ∧ op ≤ 6 then x else -1
theorem l3Set_any (op x y n : Int) (v : Value) (w : World) :
    Calls Try.prog 88 #[.agg #[.int .i64 op, .int .i64 x, .int .i64 y, .int .i64 n, v]] w fun e w' => e = .returned (.int .i64 (setOf op x)) ∧ Gr w w' none := by
  go_enter Try.func88, Try.ntmps88
  go_wp2
  all_goals go_ret
  all_goals exact ⟨ret_int (by unfold setOf; split <;> omega), (Gr.refl _ _).alloc _⟩
theorem sets_any (op x y n : Int) (v : Value) (w : World) :
    Calls Try.prog 87 #[.agg #[.int .i64 op, .int .i64 x, .int .i64 y, .int .i64 n, v]] w fun e w' => e = .returned (.int .i64 (setOf op x)) ∧ Gr w w' none := by
  go_enter Try.func87, Try.ntmps87
  go_wp2
  all_goals go_ret
  all_goals refine ⟨ret_int ?_, (Gr.refl _ _).alloc _⟩
  all_goals first
    | (unfold setOf; rw [if_pos (by simp at *; omega)]; done)
    | (unfold setOf; rw [if_neg (by simp at *; omega)]; done)

/-- The points that PointsOf hands back. -/
def ptsOf (p : Pr) : List Pt := if validP p = true then pts p else []
theorem ptsOf_le (p : Pr) : (ptsOf p).length ≤ 61 := by
  unfold ptsOf
  split
  · rename_i h; have := valid_count h; have := pts_le p; omega
  · simp
theorem Handed.nil (w : World) : Handed [] w (.returned (.slice none 0 0)) w := ⟨[], none, 0, rfl, rfl, PtsOwn.nil _ _, Gr.refl _ _⟩

set_option maxHeartbeats 1000000 in
theorem specPointsOf_any (p : Pr) (at' ab : Option Addr) (ct cb : Nat) (w : World) (hT : InAt w Any p.types at') (hB : SlAt w Any p.body ab) (hs : p.types.length ≤ 1048576) (hc : St.count p.body ≤ 1048576) :
    Calls Try.prog 24 #[.agg #[.slice at' p.types.length ct, .slice ab p.body.length cb]] w (Handed (ptsOf p) w) := by
  have hlc := count_length p.body
  have hg1 : ∀ o, Gr w (w.alloc o) none := fun o => (Gr.refl _ _).alloc _
  go_enter Try.func24, Try.ntmps24
  go_wp2_with fail
  refine (validS_any p at' ab ct cb _ (hT.gr0 (hg1 _)) (hB.gr0 (hg1 _)) hs hc (by omega)).mono ?_
  rw [valid_same]
  rintro e w1 ⟨rfl, hg⟩
  have hG1 : Gr w w1 none := (hg1 _).trans0 hg
  have q0 : w1.cell? ⟨w.heap.size, 0, none⟩ = some (.slice at' p.types.length ct) := hg.cell (p := ⟨w.heap.size, 0, none⟩) (cell?_new2 _ _).1 (by simp)
  have q1 : w1.cell? ⟨w.heap.size, 1, none⟩ = some (.slice ab p.body.length cb) := hg.cell (p := ⟨w.heap.size, 1, none⟩) (cell?_new2 _ _).2 (by simp)
  clear hg
  cases hv : validP p with
  | false =>
    have HV := Lib.hid hv
    clear hv
    go_wp2_with fail
    go_ret
    exact ⟨[], _, _, by rw [ptsOf, HV.out]; rfl, rfl, PtsOwn.empty (by have := hG1.size; omega) (heap1_0 _ _), hG1.alloc _⟩
  | true =>
    have hcnt := valid_count hv
    have HV := Lib.hid hv
    clear hv
    go_wp2_with fail
    refine (l2Points_any p at' ab ct cb _ (hB.gr0 hG1) (by omega) (by unfold maxLen; omega)).mono ?_
    rintro e w2 ⟨M, a, c, hM, rfl, hown, hg2⟩
    have HM := Lib.hid hM
    clear hM
    go_wp2_with fail
    go_ret
    exact ⟨M, a, c, by rw [HM.out, ptsOf, HV.out]; rfl, rfl, hown.base hG1.size, hG1.trans0 hg2⟩
set_option maxHeartbeats 1000000 in
theorem implPointsOf_any (p : Pr) (at' ab : Option Addr) (ct cb : Nat) (w : World) (hT : InAt w Any p.types at') (hB : SlAt w Any p.body ab) (hs : p.types.length ≤ 1048576) (hc : p.body.length ≤ 1048576) :
    Calls Try.prog 22 #[.agg #[.slice at' p.types.length ct, .slice ab p.body.length cb]] w (Handed (ptsOf p) w) := by
  have hg1 : ∀ o, Gr w (w.alloc o) none := fun o => (Gr.refl _ _).alloc _
  go_enter Try.func22, Try.ntmps22
  go_wp2_with fail
  refine (valid_any p at' ab ct cb _ (hT.gr0 (hg1 _)) (hB.gr0 (hg1 _)) hs hc).mono ?_
  rintro e w1 ⟨rfl, hg⟩
  have hG1 : Gr w w1 none := (hg1 _).trans0 hg
  have q0 : w1.cell? ⟨w.heap.size, 0, none⟩ = some (.slice at' p.types.length ct) := hg.cell (p := ⟨w.heap.size, 0, none⟩) (cell?_new2 _ _).1 (by simp)
  have q1 : w1.cell? ⟨w.heap.size, 1, none⟩ = some (.slice ab p.body.length cb) := hg.cell (p := ⟨w.heap.size, 1, none⟩) (cell?_new2 _ _).2 (by simp)
  clear hg
  cases hv : validP p with
  | false =>
    have HV := Lib.hid hv
    clear hv
    go_wp2_with fail
    go_ret
    exact ⟨[], none, 0, by rw [ptsOf, HV.out]; rfl, rfl, PtsOwn.nil _ _, hG1⟩
  | true =>
    have hcnt := valid_count hv
    have HV := Lib.hid hv
    clear hv
    go_wp2_with fail
    refine (points_any p at' ab ct cb _ (hB.gr0 hG1) (by omega) (by unfold maxLen; omega)).mono ?_
    rintro e w2 ⟨M, a, c, hM, rfl, hown, hg2⟩
    have HM := Lib.hid hM
    clear hM
    go_wp2_with fail
    go_ret
    exact ⟨M, a, c, by rw [HM.out, ptsOf, HV.out]; rfl, rfl, hown.base hG1.size, hG1.trans0 hg2⟩

/-- What SetBy says. -/
def setBy (p : Pr) (i : Int) : Int := if h : 0 ≤ i ∧ i < (ptsOf p).length then setOf ((ptsOf p)[i.toNat]'(by omega)).op ((ptsOf p)[i.toNat]'(by omega)).x else -1
theorem setBy_out {p : Pr} {i : Int} (h : i < 0 ∨ (ptsOf p).length ≤ i) : setBy p i = -1 := by
  unfold setBy; rw [dif_neg (by omega)]
theorem setBy_in {p : Pr} {k : Nat} {L : List Pt} (hL : L = ptsOf p) (h : k < L.length) {q : Pt} (hq : L[k] = q) : setBy p (k : Int) = setOf q.op q.x := by
  subst hL hq
  unfold setBy
  rw [dif_pos (by omega)]
  rfl

set_option maxHeartbeats 1000000 in
theorem specSetBy_any (p : Pr) (i : Int) (at' ab : Option Addr) (ct cb : Nat) (w : World) (hT : InAt w Any p.types at') (hB : SlAt w Any p.body ab) (hs : p.types.length ≤ 1048576) (hc : St.count p.body ≤ 1048576) :
    Calls Try.prog 53 #[.agg #[.slice at' p.types.length ct, .slice ab p.body.length cb], .int .i64 i] w fun e w' => e = .returned (.int .i64 (setBy p i)) ∧ Gr w w' none := by
  have hg1 : ∀ o, Gr w (w.alloc o) none := fun o => (Gr.refl _ _).alloc _
  go_enter Try.func53, Try.ntmps53
  go_wp2_with fail
  refine (specPointsOf_any p at' ab ct cb _ (hT.gr0 (hg1 _)) (hB.gr0 (hg1 _)) hs hc).mono ?_
  rintro e w1 ⟨L, a, c, hL, rfl, hown, hg⟩
  have hG1 : Gr w w1 none := (hg1 _).trans0 hg
  have hLl : L.length ≤ 61 := by rw [hL]; exact ptsOf_le p
  by_cases hi : i < 0 ∨ (L.length : Int) ≤ i
  · have HO := Lib.hid (setBy_out (p := p) (i := i) (by rw [← hL]; exact hi))
    clear hL
    rcases hi with hi | hi
    · go_wp2_with fail
      go_ret
      exact ⟨ret_int (by rw [HO.out]), hG1⟩
    · by_cases hi0 : i < 0
      · go_wp2_with fail
        go_ret
        exact ⟨ret_int (by rw [HO.out]), hG1⟩
      · go_wp2_with fail
        go_ret
        exact ⟨ret_int (by rw [HO.out]), hG1⟩
  · obtain ⟨k, rfl⟩ := Int.eq_ofNat_of_zero_le (show 0 ≤ i by omega)
    have hk : k < L.length := by omega
    obtain ⟨b, off, rfl, an, cn, c0, c1, c2, c3, c4, hin, -⟩ := hown.read k hk
    obtain ⟨q, eq⟩ : ∃ q, L[k] = q := ⟨_, rfl⟩
    have HO := Lib.hid (setBy_in hL hk eq)
    rw [eq] at c0 c1 c2 c3 c4
    clear hL eq
    go_wp2_with fail
    refine (l3Set_any _ _ _ _ _ _).mono ?_
    rintro e w2 ⟨rfl, hg2⟩
    go_wp2_with fail
    go_ret
    exact ⟨ret_int HO.out.symm, hG1.trans0 hg2⟩
set_option maxHeartbeats 1000000 in
theorem implSetBy_any (p : Pr) (i : Int) (at' ab : Option Addr) (ct cb : Nat) (w : World) (hT : InAt w Any p.types at') (hB : SlAt w Any p.body ab) (hs : p.types.length ≤ 1048576) (hc : p.body.length ≤ 1048576) :
    Calls Try.prog 52 #[.agg #[.slice at' p.types.length ct, .slice ab p.body.length cb], .int .i64 i] w fun e w' => e = .returned (.int .i64 (setBy p i)) ∧ Gr w w' none := by
  have hg1 : ∀ o o', Gr w ((w.alloc o).alloc o') none := fun o o' => ((Gr.refl _ _).alloc _).alloc _
  go_enter Try.func52, Try.ntmps52
  go_wp2_with fail
  refine (graphOf_any p [i] at' ab _ ct cb _ _ (hT.gr0 (hg1 _ _)) (hB.gr0 (hg1 _ _)) (InAt.of fun j hj => ⟨trivial, ?_⟩) hs hc (by simp)).mono ?_
  · have : j = 0 := by simp at hj; omega
    subst this
    exact cell_of_row _ _ 0 _ _ _ (heap2_1 _ _ _)
  rintro e w1 ⟨hg, hif⟩
  have hG1 : Gr w w1 none := (hg1 _ _).trans0 hg
  by_cases hok : graphOk p [i] = true
  · rw [if_pos hok] at hif
    obtain ⟨gb, rfl, hgb, L, a3, n3, a4, n4, al, cl, hL, d0, d1, d2, hr1, hr2, hr3⟩ := hif
    have hv : validP p = true := by unfold graphOk at hok; rw [Bool.and_eq_true] at hok; exact hok.1
    have hL' : L = ptsOf p := by rw [hL, ptsOf, if_pos hv]
    have hin : 0 ≤ i ∧ i < L.length := by
      unfold graphOk at hok
      simp [within, ← hL] at hok
      omega
    have hLl : L.length ≤ 61 := by rw [hL']; exact ptsOf_le p
    obtain ⟨k, rfl⟩ := Int.eq_ofNat_of_zero_le hin.1
    have hk : k < L.length := by omega
    obtain ⟨b, off, rfl, an, cn, c0, c1, c2, c3, c4, hin', -⟩ := hr3 k hk
    obtain ⟨q, eq⟩ : ∃ q, L[k] = q := ⟨_, rfl⟩
    have HO := Lib.hid (setBy_in hL' hk eq)
    rw [eq] at c0 c1 c2 c3 c4
    clear hL eq hL' hok hv hin d0 d1 hr1 hr2 hr3 hin'
    go_wp2_with fail
    refine (sets_any _ _ _ _ _ _).mono ?_
    rintro e w2 ⟨rfl, hg2⟩
    go_wp2_with fail
    go_ret
    exact ⟨ret_int HO.out.symm, hG1.trans0 hg2⟩
  · rw [if_neg hok] at hif
    subst hif
    have hO : setBy p i = -1 := by
      refine setBy_out ?_
      unfold ptsOf
      split
      · rename_i hv
        simp [graphOk, hv, within] at hok
        omega
      · simp; omega
    have HO := Lib.hid hO
    clear hO hok
    go_wp2_with fail
    go_ret
    exact ⟨ret_int (by rw [HO.out]), hG1⟩
end Go.Proofs.Ytpnaeijkllmihaa

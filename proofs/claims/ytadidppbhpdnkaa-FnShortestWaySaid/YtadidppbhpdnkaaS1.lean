/- What a point sets: walks of SetBy, in the program and in the reference. -/
import Derived.Test.YtadidppbhpdnkaaP3

namespace Go.Proofs.Ytadidppbhpdnkaa

open Go.RowKit

/-- The variable that a point sets, or -1. -/
def setOf (op x : Int) : Int := if 1 ≤ op ∧ op ≤ 6 then x else -1
/-- The points that PointsOf hands back. -/
def ptsOf (p : Pr) : List Pt := if validP p = true then pts p else []
theorem ptsOf_le (p : Pr) : (ptsOf p).length ≤ 61 := by
  unfold ptsOf
  split
  · rename_i h; have := valid_count h; have := pts_le p; omega
  · simp
theorem Handed.nil (w : World) : Handed [] w (.returned (.slice none 0 0)) w := ⟨[], none, 0, rfl, rfl, PtsOwn.nil _ _, Gr.refl _ _⟩

set_option maxHeartbeats 1000000 in
theorem specPointsOf_any (p : Pr) (at' ab : Option Addr) (ct cb : Nat) (w : World) (hT : InAt w Any p.types at') (hB : SlAt w Any p.body ab) (hs : p.types.length ≤ 1048576) (hc : St.count p.body ≤ 1048576) :
    Calls Try.prog 36 #[.agg #[.slice at' p.types.length ct, .slice ab p.body.length cb]] w (Handed (ptsOf p) w) := by
  have hlc := count_length p.body
  have hg1 : ∀ o, Gr w (w.alloc o) none := fun o => (Gr.refl _ _).alloc _
  go_enter Try.func36, Try.ntmps36
  go_wp2_with fail
  refine (validS_any p at' ab ct cb _ (hT.gr0 (hg1 _)) (hB.gr0 (hg1 _)) hs hc (by omega)).mono ?_
  rw [valid_same]
  rintro e w1 ⟨rfl, hg⟩
  have hG1 : Gr w w1 none := (hg1 _).trans0 hg
  have q0 : w1.cell? ⟨w.heap.size, 0, none⟩ = some (.slice at' p.types.length ct) := hg.cell (p := ⟨w.heap.size, 0, none⟩) (cell?_new2 _ _).1 (by simp)
  have q1 : w1.cell? ⟨w.heap.size, 1, none⟩ = some (.slice ab p.body.length cb) := hg.cell (p := ⟨w.heap.size, 1, none⟩) (cell?_new2 _ _).2 (by simp)
  clear hg
  cases hv : validP p with
  | false =>
    have HV := Lib.hid hv
    clear hv
    go_wp2_with fail
    go_ret
    exact ⟨[], _, _, by rw [ptsOf, HV.out]; rfl, rfl, PtsOwn.empty (by have := hG1.size; omega) (heap1_0 _ _), hG1.alloc _⟩
  | true =>
    have hcnt := valid_count hv
    have HV := Lib.hid hv
    clear hv
    go_wp2_with fail
    refine (l2Points_any p at' ab ct cb _ (hB.gr0 hG1) (by omega) (by unfold maxLen; omega)).mono ?_
    rintro e w2 ⟨M, a, c, hM, rfl, hown, hg2⟩
    have HM := Lib.hid hM
    clear hM
    go_wp2_with fail
    go_ret
    exact ⟨M, a, c, by rw [HM.out, ptsOf, HV.out]; rfl, rfl, hown.base hG1.size, hG1.trans0 hg2⟩
set_option maxHeartbeats 1000000 in
theorem implPointsOf_any (p : Pr) (at' ab : Option Addr) (ct cb : Nat) (w : World) (hT : InAt w Any p.types at') (hB : SlAt w Any p.body ab) (hs : p.types.length ≤ 1048576) (hc : p.body.length ≤ 1048576) :
    Calls Try.prog 23 #[.agg #[.slice at' p.types.length ct, .slice ab p.body.length cb]] w (Handed (ptsOf p) w) := by
  have hg1 : ∀ o, Gr w (w.alloc o) none := fun o => (Gr.refl _ _).alloc _
  go_enter Try.func23, Try.ntmps23
  go_wp2_with fail
  refine (valid_any p at' ab ct cb _ (hT.gr0 (hg1 _)) (hB.gr0 (hg1 _)) hs hc).mono ?_
  rintro e w1 ⟨rfl, hg⟩
  have hG1 : Gr w w1 none := (hg1 _).trans0 hg
  have q0 : w1.cell? ⟨w.heap.size, 0, none⟩ = some (.slice at' p.types.length ct) := hg.cell (p := ⟨w.heap.size, 0, none⟩) (cell?_new2 _ _).1 (by simp)
  have q1 : w1.cell? ⟨w.heap.size, 1, none⟩ = some (.slice ab p.body.length cb) := hg.cell (p := ⟨w.heap.size, 1, none⟩) (cell?_new2 _ _).2 (by simp)
  clear hg
  cases hv : validP p with
  | false =>
    have HV := Lib.hid hv
    clear hv
    go_wp2_with fail
    go_ret
    exact ⟨[], none, 0, by rw [ptsOf, HV.out]; rfl, rfl, PtsOwn.nil _ _, hG1⟩
  | true =>
    have hcnt := valid_count hv
    have HV := Lib.hid hv
    clear hv
    go_wp2_with fail
    refine (points_any p at' ab ct cb _ (hB.gr0 hG1) (by omega) (by unfold maxLen; omega)).mono ?_
    rintro e w2 ⟨M, a, c, hM, rfl, hown, hg2⟩
    have HM := Lib.hid hM
    clear hM
    go_wp2_with fail
    go_ret
    exact ⟨M, a, c, by rw [HM.out, ptsOf, HV.out]; rfl, rfl, hown.base hG1.size, hG1.trans0 hg2⟩

/-- What SetBy says. -/
def setBy (p : Pr) (i : Int) : Int := if h : 0 ≤ i ∧ i < (ptsOf p).length then setOf ((ptsOf p)[i.toNat]'(by omega)).op ((ptsOf p)[i.toNat]'(by omega)).x else -1
theorem setBy_out {p : Pr} {i : Int} (h : i < 0 ∨ (ptsOf p).length ≤ i) : setBy p i = -1 := by
  unfold setBy; rw [dif_neg (by omega)]
theorem setBy_in {p : Pr} {k : Nat} {L : List Pt} (hL : L = ptsOf p) (h : k < L.length) {q : Pt} (hq : L[k] = q) : setBy p (k : Int) = setOf q.op q.x := by
  subst hL hq
  unfold setBy
  rw [dif_pos (by omega)]
  rfl

end Go.Proofs.Ytadidppbhpdnkaa

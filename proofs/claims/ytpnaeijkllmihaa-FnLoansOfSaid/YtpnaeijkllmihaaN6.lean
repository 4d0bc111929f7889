/- LoansOf, of the program and of the reference: both hand back the same list. -/
import Derived.Test.YtpnaeijkllmihaaMB

import Derived.Test.YtpnaeijkllmihaaN5

import Derived.Deep.RegionLaw

namespace Go.Proofs.Ytpnaeijkllmihaa

open Go.RowKit

/-- The rows that f gives for the numbers below j. -/
def collR (f : Nat → List (List Value)) : Nat → List (List Value)
  | 0 => []
  | j + 1 => collR f j ++ f j
theorem collR_len {f : Nat → List (List Value)} {m : Nat} (h : ∀ j, (f j).length ≤ m) : ∀ j, (collR f j).length ≤ m * j
  | 0 => by simp [collR]
  | j + 1 => by
    have := collR_len h j
    have := h j
    simp only [collR, List.length_append, Nat.mul_add]
    omega
theorem collR_mem {f : Nat → List (List Value)} {P : List Value → Prop} (h : ∀ j, ∀ r ∈ f j, P r) : ∀ j, ∀ r ∈ collR f j, P r
  | 0, r, hr => by simp [collR] at hr
  | j + 1, r, hr => by
    rcases List.mem_append.1 hr with hr | hr
    · exact collR_mem h j r hr
    · exact h j r hr
theorem collR_none {f : Nat → List (List Value)} {j : Nat} (h : f j = []) : collR f (j + 1) = collR f j := by simp [collR, h]
theorem collR_one {f : Nat → List (List Value)} {j : Nat} {r : List Value} (h : f j = [r]) : collR f (j + 1) = collR f j ++ [r] := by simp [collR, h]

theorem isLoan_any (op x y n : Int) (v : Value) (w : World) :
    Calls Try.prog 83 #[.agg #[.int .i64 op, .int .i64 x, .int .i64 y, .int .i64 n, v]] w fun e w' => e = .returned (.bool (op == 4 || op == 5)) ∧ Gr w w' none := by
  go_enter Try.func83, Try.ntmps83
  go_wp2
  all_goals go_ret
  all_goals exact ⟨ret_bool (by first | rfl | (simp [*]; done) | (simp_all; done)), (Gr.refl _ _).alloc _⟩
theorem Linfo : (Try.prog.info? 51).map (fun i => (i.zero, i.size, i.bytes)) = some (some (.agg #[.int .i64 0, .bool false, .int .i64 0]), 3, 24) := by kernel_rfl
/-- The loan at a point, if it is one. -/
def loanRow (L : List Pt) (k : Nat) : List (List Value) :=
  if ((ptAt L k).op == 4 || (ptAt L k).op == 5) = true then [[.int .i64 k, .bool ((ptAt L k).op == 5), .int .i64 (ptAt L k).y]] else []
/-- What LoansOf says. -/
def loansOf (p : Pr) : List (List Value) := collR (loanRow (ptsOf p)) (ptsOf p).length
theorem loanRow_len (L : List Pt) (j : Nat) : (loanRow L j).length ≤ 1 := by unfold loanRow; split <;> simp
theorem loansOf_len (p : Pr) : (loansOf p).length ≤ 1048576 := by
  have := collR_len (loanRow_len (ptsOf p)) (ptsOf p).length
  have := ptsOf_le p
  unfold loansOf
  omega
theorem loanRow_of {L : List Pt} {k : Nat} (hk : k < L.length) {q : Pt} (hq : L[k] = q) : loanRow L k = if (q.op == 4 || q.op == 5) = true then [[.int .i64 k, .bool (q.op == 5), .int .i64 q.y]] else [] := by
  unfold loanRow; rw [ptAt_get hk, hq]
theorem row_one3 (a : Int) (b : Bool) (c : Int) : ∀ u ∈ [Value.int .i64 a, .bool b, .int .i64 c], u.oneCell' = true := by
  intro u hu; simp at hu; rcases hu with rfl | rfl | rfl <;> rfl

set_option maxRecDepth 100000 in
set_option maxHeartbeats 2000000 in
theorem l4Loans_any (L : List Pt) (am : Option Addr) (c : Nat) (w : World) (hR : PtsAt w L am) (hl : L.length ≤ 100) :
    Calls Try.prog 86 #[.slice am L.length c] w (HandR 3 (collR (loanRow L) L.length) w) := by
  have HR := Lib.hid hR
  clear hR
  have hC0 : LstR 51 3 (w.alloc (.cells #[] 51)) w.heap.size w.heap.size (collR (loanRow L) 0) (some ⟨w.heap.size, 0, none⟩) 0 0 := LstR.empty (Nat.le_refl _) (Nat.le_refl _) (heap1_0 _ _)
  go_enter Try.func86, Try.ntmps86
  go_wp2_with fail
  go_loopw [3, 4] (fun v i wr => ∃ (k n cap : Nat) (ao : Option Addr), k ≤ L.length ∧ i = .int .i64 k ∧ v = .slice ao n cap ∧ LstR 51 3 wr w.heap.size w.heap.size (collR (loanRow L) k) ao n cap ∧ Gr w wr none) (fun _ i _ => L.length - (intOf i).toNat)
  case atStart => exact ⟨0, 0, 0, _, Nat.zero_le _, rfl, rfl, hC0, (Gr.refl _ _).alloc _⟩
  case round =>
    obtain ⟨k, n, cap, ao, hkl, rfl, rfl, hCo, hgr⟩ := hrel
    have hnk : n ≤ 1000 := by have := collR_len (loanRow_len L) k; have := hCo.1; omega
    have HCo := Lib.hid hCo
    clear hCo hC0
    by_cases hlt : k < L.length
    · obtain ⟨b, po, rfl, an, cn, c0, -, c2, -, -, -, -⟩ := (HR.out.gr hgr) k hlt
      obtain ⟨q, eq⟩ : ∃ q, L[k] = q := ⟨_, rfl⟩
      rw [eq] at c0 c2
      have HI := Lib.hid (loanRow_of hlt eq)
      clear eq
      by_cases h4 : q.op = 4
      · have hY : collR (loanRow L) (k + 1) = collR (loanRow L) k ++ [[.int .i64 k, .bool false, .int .i64 q.y]] := collR_one (by rw [HI.out, h4]; rfl)
        have HY := Lib.hid hY
        rw [h4] at c0
        clear h4 hY
        go_upto_region 6 with fail
        go_region_law (refine step_app_r wr _ rfl (.tmp 26) (.tmp 40) 48 rfl 51 3 24 _ Try.underlying48 Linfo rfl (by decide) (by decide) w.heap.size w.heap.size ao cap n _ [.int .i64 k, .bool false, .int .i64 q.y] rfl HCo.out ((Gr.refl _ _).drew.alloc _) wr.heap.size 1 rfl _ (heap1_0 _ _) rfl rfl (row_one3 _ _ _) (by omega) hgr.size ?_; intro g cap' w4 hC4 hg4 _)
        all_goals
          go_wp2_with fail
          go_roundw
          case rel => exact ⟨k + 1, n + 1, cap', _, by omega, by go_num, rfl, by rw [HY.out]; exact hC4, hg4 _ (hgr.drew.alloc _) (Nat.le_refl _)⟩
          case measure => simp [intOf]; omega
      · by_cases h5 : q.op = 5
        · have hY : collR (loanRow L) (k + 1) = collR (loanRow L) k ++ [[.int .i64 k, .bool true, .int .i64 q.y]] := collR_one (by rw [HI.out, h5]; rfl)
          have HY := Lib.hid hY
          rw [h5] at c0
          clear h4 h5 hY
          go_upto_region 6 with fail
          go_region_law (refine step_app_r wr _ rfl (.tmp 26) (.tmp 40) 48 rfl 51 3 24 _ Try.underlying48 Linfo rfl (by decide) (by decide) w.heap.size w.heap.size ao cap n _ [.int .i64 k, .bool true, .int .i64 q.y] rfl HCo.out ((Gr.refl _ _).drew.alloc _) wr.heap.size 1 rfl _ (heap1_0 _ _) rfl rfl (row_one3 _ _ _) (by omega) hgr.size ?_; intro g cap' w4 hC4 hg4 _)
          all_goals
            go_wp2_with fail
            go_roundw
            case rel => exact ⟨k + 1, n + 1, cap', _, by omega, by go_num, rfl, by rw [HY.out]; exact hC4, hg4 _ (hgr.drew.alloc _) (Nat.le_refl _)⟩
            case measure => simp [intOf]; omega
        · have HY := Lib.hid (show collR (loanRow L) (k + 1) = collR (loanRow L) k from collR_none (by rw [HI.out]; simp [h4, h5]))
          go_wp2_with fail
          go_roundw
          case rel => exact ⟨k + 1, n, cap, ao, by omega, by go_num, rfl, by rw [HY.out]; exact HCo.out, hgr⟩
          case measure => simp [intOf]; omega
    · obtain rfl : k = L.length := by omega
      go_wp2_with fail
      go_ret
      exact HCo.out.hand rfl hgr

theorem specLoansOf_any (p : Pr) (at' ab : Option Addr) (ct cb : Nat) (w : World) (hT : InAt w Any p.types at') (hB : SlAt w Any p.body ab) (hs : p.types.length ≤ 1048576) (hc : St.count p.body ≤ 1048576) :
    Calls Try.prog 51 #[.agg #[.slice at' p.types.length ct, .slice ab p.body.length cb]] w (HandR 3 (loansOf p) w) := by
  have hlc := count_length p.body
  have hg1 : ∀ o, Gr w (w.alloc o) none := fun o => (Gr.refl _ _).alloc _
  have hml := ptsOf_le p
  go_enter Try.func51, Try.ntmps51
  go_wp2_with fail
  refine (specPointsOf_any p at' ab ct cb _ (hT.gr0 (hg1 _)) (hB.gr0 (hg1 _)) hs hc).mono ?_
  rintro e w1 ⟨M, am, c, hM, rfl, hown, hg⟩
  subst hM
  have hG1 : Gr w w1 none := (hg1 _).trans0 hg
  have HR := Lib.hid hown.read
  clear hg hown
  go_wp2_with fail
  refine (l4Loans_any (ptsOf p) am c _ HR.out (by omega)).mono ?_
  intro e w3 hh
  have hhh := hh.after hG1
  obtain ⟨a3, c3, rfl, -⟩ := hh
  have HH := Lib.hid hhh
  clear hhh
  go_wp2_with fail
  go_ret
  exact HH.out
set_option maxRecDepth 100000 in
set_option maxHeartbeats 2000000 in
theorem implLoansOf_any (p : Pr) (at' ab : Option Addr) (ct cb : Nat) (w : World) (hT : InAt w Any p.types at') (hB : SlAt w Any p.body ab) (hs : p.types.length ≤ 1048576) (hc : p.body.length ≤ 1048576) :
    Calls Try.prog 43 #[.agg #[.slice at' p.types.length ct, .slice ab p.body.length cb]] w (HandR 3 (loansOf p) w) := by
  have hg1 : ∀ o, Gr w (w.alloc o) none := fun o => (Gr.refl _ _).alloc _
  have hml := ptsOf_le p
  go_enter Try.func43, Try.ntmps43
  go_wp2_with fail
  refine (implPointsOf_any p at' ab ct cb _ (hT.gr0 (hg1 _)) (hB.gr0 (hg1 _)) hs hc).mono ?_
  rintro e w1 ⟨L, am, c, hM, rfl, hown, hg⟩
  have HM := Lib.hid hM
  rw [← hM] at hml
  have hG1 : Gr w w1 none := (hg1 _).trans0 hg
  have HR := Lib.hid hown.read
  have hC0 : LstR 51 3 w1 w.heap.size w1.heap.size (collR (loanRow L) 0) none 0 0 := LstR.nil _ _ _ hG1.size
  clear hg hown hM
  go_wp2_with fail
  go_loopw [3, 9] (fun v i wr => ∃ (k n cap : Nat) (ao : Option Addr), k ≤ L.length ∧ i = .int .i64 k ∧ v = .slice ao n cap ∧ LstR 51 3 wr w.heap.size w1.heap.size (collR (loanRow L) k) ao n cap ∧ Gr w1 wr none) (fun _ i _ => L.length - (intOf i).toNat)
  case atStart => exact ⟨0, 0, 0, _, Nat.zero_le _, rfl, rfl, hC0, Gr.refl _ _⟩
  case round =>
    obtain ⟨k, n, cap, ao, hkl, rfl, rfl, hCo, hgr⟩ := hrel
    have hnk : n ≤ 1000 := by have := collR_len (loanRow_len L) k; have := hCo.1; omega
    have HCo := Lib.hid hCo
    clear hCo hC0
    by_cases hlt : k < L.length
    · obtain ⟨b, po, rfl, an, cn, c0, c1, c2, c3, c4, -, -⟩ := (HR.out.gr hgr) k hlt
      obtain ⟨q, eq⟩ : ∃ q, L[k] = q := ⟨_, rfl⟩
      rw [eq] at c0 c1 c2 c3 c4
      have HI := Lib.hid (loanRow_of hlt eq)
      clear eq
      cases hl : (q.op == 4 || q.op == 5) with
      | true =>
        have HY := Lib.hid (show collR (loanRow L) (k + 1) = collR (loanRow L) k ++ [[.int .i64 k, .bool (q.op == 5), .int .i64 q.y]] from collR_one (by rw [HI.out, hl]; rfl))
        have HL := Lib.hid hl
        clear hl
        go_wp2_with fail
        refine (isLoan_any _ _ _ _ _ _).mono ?_
        rw [HL.out]
        rintro e w2 ⟨rfl, hg2⟩
        have r0 := hg2.cell (p := ⟨wr.heap.size, 0, none⟩) (cell_of_row _ _ _ _ _ _ (heap1_0 wr _)) (by simp)
        have r2 := hg2.cell (p := ⟨wr.heap.size, 2, none⟩) (cell_of_row _ _ _ _ _ _ (heap1_0 wr _)) (by simp)
        have hg3 : Gr wr w2 none := ((Gr.refl _ _).alloc _).trans0 hg2
        have HC2 := Lib.hid (HCo.out.gr hg3)
        clear c0 c1 c2 c3 c4 hg2
        go_wp2_with (at_builtin; refine app_r w2 _ rfl (.tmp 16) (.tmp 24) 48 rfl 51 3 24 _ Try.underlying48 Linfo rfl (by decide) (by decide) w.heap.size w1.heap.size ao cap n _ [.int .i64 k, .bool (q.op == 5), .int .i64 q.y] rfl HC2.out ((Gr.refl _ _).alloc _) w2.heap.size 1 rfl _ (heap1_0 _ _) rfl rfl (row_one3 _ _ _) (by omega) (hgr.trans0 hg3).size ?_; rintro g cap' w4 hC4 hg4 -)
        go_roundw
        case rel => exact ⟨k + 1, n + 1, cap', _, by omega, by go_num, rfl, by rw [HY.out]; exact hC4, hg4 _ ((hgr.trans0 hg3).alloc _) (Nat.le_refl _)⟩
        case measure => simp [intOf]; omega
      | false =>
        have HY := Lib.hid (show collR (loanRow L) (k + 1) = collR (loanRow L) k from collR_none (by rw [HI.out, hl]; rfl))
        have HL := Lib.hid hl
        clear hl
        go_wp2_with fail
        refine (isLoan_any _ _ _ _ _ _).mono ?_
        rw [HL.out]
        rintro e w2 ⟨rfl, hg2⟩
        have hg3 : Gr wr w2 none := ((Gr.refl _ _).alloc _).trans0 hg2
        clear c0 c1 c2 c3 c4 hg2
        go_wp2_with fail
        go_roundw
        case rel => exact ⟨k + 1, n, cap, ao, by omega, by go_num, rfl, by rw [HY.out]; exact HCo.out.gr hg3, hgr.trans0 hg3⟩
        case measure => simp [intOf]; omega
    · obtain rfl : k = L.length := by omega
      go_wp2_with fail
      go_ret
      exact HCo.out.hand (by rw [HM.out]; rfl) (hG1.trans0 hgr)
end Go.Proofs.Ytpnaeijkllmihaa

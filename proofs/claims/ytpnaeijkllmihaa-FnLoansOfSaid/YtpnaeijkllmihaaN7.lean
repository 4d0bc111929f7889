/- BoundsOf, of the program and of the reference: both hand back the same list. -/
import Derived.Test.YtpnaeijkllmihaaN6

namespace Go.Proofs.Ytpnaeijkllmihaa

open Go.RowKit

/-! ### The simple points of a valid program are right -/

def PtsOk (types : List Int) (l : List Pt) : Prop := ∀ q ∈ l, q.op = 9 ∨ q.op = 10 ∨ q.op = 11 ∨ simpleS types q.op q.x q.y q.n = true
theorem PtsOk.app {types : List Int} {l l' : List Pt} (h : PtsOk types l) (h' : PtsOk types l') : PtsOk types (l ++ l') := by
  intro q hq
  rcases List.mem_append.1 hq with hq | hq
  · exact h q hq
  · exact h' q hq
theorem PtsOk.one {types : List Int} {q : Pt} (h : q.op = 9 ∨ q.op = 10 ∨ q.op = 11 ∨ simpleS types q.op q.x q.y q.n = true) : PtsOk types [q] := by
  intro r hr; simp at hr; subst hr; exact h
mutual
theorem ptsS_ok (types : List Int) : ∀ (s : St) (d : Int) (a : Nat), stS types s d = true → PtsOk types (ptsS s a)
  | .mk op x y n t e, d, a, h => by
    simp only [stS] at h
    simp only [ptsS]
    split at h
    · rename_i hop
      have h9 : ¬ (op == 9) = true := by simp at hop ⊢; exact hop.1
      have h10 : ¬ (op == 10) = true := by simp at hop ⊢; exact hop.2
      rw [if_neg h9, if_neg h10]
      simp only [Bool.and_eq_true] at h
      exact PtsOk.one (.inr (.inr (.inr h.2.2)))
    · split at h
      · simp at h
      · simp only [Bool.and_eq_true] at h
        have h1 := ptsL_ok types t (d - 1)
        have h2 := ptsL_ok types e (d - 1)
        split
        · exact (((PtsOk.one (.inl rfl)).app (h1 _ h.1)).app (PtsOk.one (.inr (.inl rfl)))).app (h2 _ h.2)
        · split
          · exact ((PtsOk.one (.inr (.inl rfl))).app (h1 _ h.1)).app (PtsOk.one (.inr (.inl rfl)))
          · rename_i h3 h4 h5 h6
            exfalso
            simp at h3 h5 h6
            exact h6 (h3 h5)
theorem ptsL_ok (types : List Int) : ∀ (l : List St) (d : Int) (a : Nat), bodyS types l d = true → PtsOk types (ptsL l a)
  | [], d, a, h => by intro q hq; simp [ptsL] at hq
  | s :: r, d, a, h => by
    simp only [bodyS, Bool.and_eq_true] at h
    simp only [ptsL]
    exact (ptsS_ok types s d a h.1).app (ptsL_ok types r d _ h.2)
end
theorem pts_simple {p : Pr} (h : validP p = true) : PtsOk p.types (pts p) := by
  rw [← valid_same] at h
  unfold validS at h
  simp only [Bool.and_eq_true] at h
  exact (ptsL_ok p.types p.body 4 0 h.2.1).app (PtsOk.one (.inr (.inr (.inl rfl))))
theorem tyOf_in {l : List Int} {v : Int} (h : tyOf l v ≠ 0) : 0 ≤ v ∧ v < l.length := by
  unfold tyOf at h
  split at h
  · assumption
  · exact absurd rfl h
theorem tyOf_get {l : List Int} {j : Nat} (h : j < l.length) : tyOf l j = l[j] := by
  unfold tyOf
  rw [if_pos ⟨by omega, by omega⟩]
  simp [h]
/-- What a point of op 3, 4, 5 or 6 says of its variables. -/
theorem simple_xy {types : List Int} {op x y n : Int} (h : simpleS types op x y n = true) (ho : op = 3 ∨ op = 4 ∨ op = 5 ∨ op = 6) : ∃ i j : Nat, x = i ∧ y = j ∧ i < types.length ∧ j < types.length := by
  have hxy : tyOf types x ≠ 0 ∧ tyOf types y ≠ 0 := by
    unfold simpleS at h
    rcases ho with rfl | rfl | rfl | rfl
    · simp at h; omega
    · simp at h; omega
    · simp at h; omega
    · simp at h; omega
  have hx := tyOf_in hxy.1
  have hy := tyOf_in hxy.2
  exact ⟨x.toNat, y.toNat, by omega, by omega, by omega, by omega⟩

/-! ### Bounds -/

def isRef (t : Int) : Bool := t == 3 || t == 4
theorem specIsRef_any (t : Int) (w : World) : Calls Try.prog 108 #[.int .i64 t] w fun e w' => e = .returned (.bool (isRef t)) ∧ w = w' := by
  go_enter Try.func108, Try.ntmps108
  go_wp2
  all_goals go_ret
  all_goals exact ⟨ret_bool (by first | rfl | (simp [isRef, *]; done) | (simp_all [isRef]; done)), rfl⟩
theorem implIsRef_any (t : Int) (w : World) : Calls Try.prog 44 #[.int .i64 t] w fun e w' => e = .returned (.bool (isRef t)) ∧ w = w' := by
  go_enter Try.func44, Try.ntmps44
  go_wp2
  all_goals go_ret
  all_goals exact ⟨ret_bool (by first | rfl | (simp [isRef, *]; done) | (simp_all [isRef]; done)), rfl⟩
theorem BdInfo : (Try.prog.info? 47).map (fun i => (i.zero, i.size, i.bytes)) = some (some (.agg #[.int .i64 0, .int .i64 0, .int .i64 0]), 3, 24) := by kernel_rfl
def isLn (q : Pt) : Bool := q.op == 4 || q.op == 5
/-- The bounds of a point. -/
def bound1 (q : Pt) (k : Nat) : List (List Value) := if isLn q = true then [[.int .i64 q.x, .int .i64 k, .int .i64 (-1)]] else []
def bound2 (types : List Int) (q : Pt) : List (List Value) := if ((isLn q || q.op == 3) && isRef (tyOf types q.y)) = true then [[.int .i64 q.x, .int .i64 (-1), .int .i64 q.y]] else []
def boundRow (types : List Int) (L : List Pt) (k : Nat) : List (List Value) := bound1 (ptAt L k) k ++ bound2 types (ptAt L k)
def bounds (p : Pr) : List (List Value) := collR (boundRow p.types (pts p)) (pts p).length
/-- What BoundsOf says. -/
def boundsOf (p : Pr) : List (List Value) := if validP p = true then bounds p else []
theorem boundRow_len (types : List Int) (L : List Pt) (j : Nat) : (boundRow types L j).length ≤ 2 := by
  unfold boundRow bound1 bound2; split <;> split <;> simp
theorem pts_len {p : Pr} (h : validP p = true) : (pts p).length ≤ 61 := by
  have := ptsOf_le p
  unfold ptsOf at this
  rw [if_pos h] at this
  exact this
theorem boundsOf_len (p : Pr) : (boundsOf p).length ≤ 1048576 := by
  unfold boundsOf
  split
  · rename_i h
    have := collR_len (boundRow_len p.types (pts p)) (pts p).length
    have := pts_len h
    unfold bounds
    omega
  · simp
theorem boundRow_is (types : List Int) (L : List Pt) (j : Nat) : ∀ r ∈ boundRow types L j, ∃ (x0 : Int) (x1 : Int) (x2 : Int), r = [.int .i64 x0, .int .i64 x1, .int .i64 x2] := by
  intro r hr
  rcases List.mem_append.1 hr with hr | hr
  · unfold bound1 at hr
    split at hr
    · simp at hr; exact ⟨_, _, _, hr⟩
    · simp at hr
  · unfold bound2 at hr
    split at hr
    · simp at hr; exact ⟨_, _, _, hr⟩
    · simp at hr
theorem row_int3 (a b c : Int) : ∀ u ∈ [Value.int .i64 a, .int .i64 b, .int .i64 c], u.oneCell' = true := by
  intro u hu; simp at hu; rcases hu with rfl | rfl | rfl <;> rfl
/-- The variable from which a loan or a move is made. -/
theorem ref_y {types : List Int} {q : Pt} (h : q.op = 9 ∨ q.op = 10 ∨ q.op = 11 ∨ simpleS types q.op q.x q.y q.n = true) (ho : isLn q = true ∨ q.op = 3) : ∃ j : Nat, q.y = j ∧ ∃ h : j < types.length, tyOf types q.y = types[j] := by
  have hoo : q.op = 3 ∨ q.op = 4 ∨ q.op = 5 := by
    rcases ho with h | h
    · simp [isLn] at h; omega
    · exact .inl h
  have hs : simpleS types q.op q.x q.y q.n = true := by
    rcases h with h | h | h | h
    · omega
    · omega
    · omega
    · exact h
  obtain ⟨i, j, h1, h2, h3, h4⟩ := simple_xy hs (by omega)
  exact ⟨j, h2, h4, by rw [h2]; exact tyOf_get h4⟩

set_option maxRecDepth 100000 in
set_option maxHeartbeats 4000000 in
theorem l9Bounds_any (p : Pr) (at' ab : Option Addr) (ct cb : Nat) (w : World) (hT : InAt w Any p.types at') (hB : SlAt w Any p.body ab) (hv : validP p = true) (hlb : p.body.length ≤ 1048576) :
    Calls Try.prog 84 #[.agg #[.slice at' p.types.length ct, .slice ab p.body.length cb]] w (HandR 3 (bounds p) w) := by
  have hcnt := valid_count hv
  have hml := pts_len hv
  have HS := Lib.hid (pts_simple hv)
  clear hv
  have hg1 : ∀ o o', Gr w ((w.alloc o).alloc o') none := fun o o' => ((Gr.refl _ _).alloc _).alloc _
  go_enter Try.func84, Try.ntmps84
  go_wp2_with fail
  refine (l2Points_any p at' ab ct cb _ (hB.gr0 (hg1 _ _)) (by omega) (by unfold maxLen; omega)).mono ?_
  rintro e w1 ⟨L, am, c, hM, rfl, hown, hg⟩
  have HM := Lib.hid hM
  rw [← hM] at hml
  have hG1 : Gr w w1 none := (hg1 _ _).trans0 hg
  have q0 : w1.cell? ⟨w.heap.size, 0, none⟩ = some (.slice at' p.types.length ct) := hg.cell (p := ⟨w.heap.size, 0, none⟩) (cell_of_row _ _ _ _ _ _ (heap2_0 _ _ _)) (by simp)
  have Q1 := Lib.hid q0
  have hE : w1.heap[w.heap.size + 1]? = some (.cells #[] 47 (0, 0)) := (hg.block _ (by simp) (by simp)).trans (heap2_1 _ _ _)
  have hC0 : LstR 47 3 w1 w.heap.size w1.heap.size (collR (boundRow p.types L) 0) (some ⟨w.heap.size + 1, 0, none⟩) 0 0 := LstR.empty hG1.size (by omega) hE
  have HR := Lib.hid hown.read
  have HT := Lib.hid (hT.gr0 hG1)
  clear hg hown hM hE
  go_wp2_with fail
  go_loopw [3, 5] (fun v i wr => ∃ (k n cap : Nat) (ao : Option Addr), k ≤ L.length ∧ i = .int .i64 k ∧ v = .slice ao n cap ∧ LstR 47 3 wr w.heap.size w1.heap.size (collR (boundRow p.types L) k) ao n cap ∧ Gr w1 wr none) (fun _ i _ => L.length - (intOf i).toNat)
  case atStart => exact ⟨0, 0, 0, _, Nat.zero_le _, rfl, rfl, hC0, Gr.refl _ _⟩
  case round =>
    obtain ⟨k, n, cap, ao, hkl, rfl, rfl, hCo, hgr⟩ := hrel
    have hnk : n ≤ 1000 := by have := collR_len (boundRow_len p.types L) k; have := hCo.1; omega
    have hao := hCo.lt
    have HCo := Lib.hid hCo
    clear hCo hC0
    replace q0 := hgr.cell q0 (by simp)
    by_cases hlt : k < L.length
    · obtain ⟨b, po, rfl, an, cn, c0, c1, c2, c3, c4, -, -⟩ := (HR.out.gr hgr) k hlt
      obtain ⟨q, eq⟩ : ∃ q, L[k] = q := ⟨_, rfl⟩
      rw [eq] at c0 c1 c2 c3 c4
      have hq : q ∈ pts p := by rw [← HM.out, ← eq]; exact List.getElem_mem hlt
      have HI := Lib.hid (show boundRow p.types L k = bound1 q k ++ bound2 p.types q by unfold boundRow; rw [ptAt_get hlt, eq])
      have HSQ := Lib.hid (HS.out q hq)
      have HAO := Lib.hid hao
      have hbw : w.heap.size < wr.heap.size := lt_of_cell q0
      clear eq hq hao
      go_upto_region 7 with fail
      obtain ⟨wX, hwX⟩ : ∃ wX : World, wX = wr.alloc (.cells #[.int .i64 q.op, .int .i64 q.x, .int .i64 q.y, .int .i64 q.n, .slice an q.next.length cn] 38) := ⟨_, rfl⟩
      have hgX0 : Gr wr wX none := by rw [hwX]; exact (Gr.refl _ _).alloc _
      have e0 : wX.cell? ⟨wr.heap.size, 0, none⟩ = some (.int .i64 q.op) := by rw [hwX]; exact cell_of_row _ _ _ _ _ _ (heap1_0 _ _)
      have e1 : wX.cell? ⟨wr.heap.size, 1, none⟩ = some (.int .i64 q.x) := by rw [hwX]; exact cell_of_row _ _ _ _ _ _ (heap1_0 _ _)
      have e2 : wX.cell? ⟨wr.heap.size, 2, none⟩ = some (.int .i64 q.y) := by rw [hwX]; exact cell_of_row _ _ _ _ _ _ (heap1_0 _ _)
      rw [← hwX]
      replace q0 := hgX0.cell q0 (by simp)
      have HCX := Lib.hid (HCo.out.gr hgX0)
      have hgX := hgr.trans0 hgX0
      clear hwX c0 c1 c2 c3 c4 HCo hgX0
      go_cut [7] (fun s wx => s = .bool (isLn q) ∧ wX = wx)
      case first =>
        by_cases h4 : q.op = 4
        · have h4' : isLn q = true := by simp [isLn, h4]
          have H4 := Lib.hid h4'
          rw [h4] at e0
          clear h4 h4'
          go_wp2_with fail
          go_meet
          exact ⟨by rw [H4.out], rfl⟩
        · by_cases h5 : q.op = 5
          · have h4' : isLn q = true := by simp [isLn, h5]
            have H4 := Lib.hid h4'
            rw [h5] at e0
            clear h4 h5 h4'
            go_wp2_with fail
            go_meet
            exact ⟨by rw [H4.out], rfl⟩
          · have h4' : isLn q = false := by simp [isLn, h4, h5]
            have H4 := Lib.hid h4'
            clear h4'
            go_wp2_with fail
            go_meet
            exact ⟨by simp [H4.out, h5], rfl⟩
      case rest =>
      obtain ⟨rfl, rfl⟩ := hcut
      have HTT := Lib.hid (fun ho => ref_y HSQ.out ho)
      cases hl : isLn q with
      | true =>
        obtain ⟨j, hj, hjl, hty⟩ := HTT.out (.inl hl)
        obtain ⟨bt, ot, rfl, -, ht⟩ := HT.out.at hjl
        rw [hj] at e2
        rw [← hty] at ht
        have HJ := Lib.hid hj
        have HTW := Lib.hid ht
        clear hj hty ht
        cases hr : isRef (tyOf p.types q.y) with
        | true =>
          have hY : collR (boundRow p.types L) (k + 1) = collR (boundRow p.types L) k ++ [[.int .i64 q.x, .int .i64 k, .int .i64 (-1)]] ++ [[.int .i64 q.x, .int .i64 (-1), .int .i64 j]] := by
            rw [collR, HI.out]; unfold bound1 bound2; rw [if_pos hl, if_pos (by rw [hl, hr]; rfl), HJ.out]; simp
          have HY := Lib.hid hY
          have HR2 := Lib.hid hr
          have HL := Lib.hid hl
          clear hY hl hr
          go_upto_region 10 with (at_builtin; refine app_r wX _ rfl (.tmp 30) (.tmp 35) 44 rfl 47 3 24 _ Try.underlying44 BdInfo rfl (by decide) (by decide) w.heap.size w1.heap.size ao cap n _ [.int .i64 q.x, .int .i64 k, .int .i64 (-1)] rfl HCX.out ((Gr.refl _ _).alloc _) wX.heap.size 1 rfl _ (heap1_0 _ _) rfl rfl (row_int3 _ _ _) (by omega) hgX.size ?_; rintro g4 cap4 w4 hC4 hg4 ho4)
          have hG4 : Gr w1 w4 none := hg4 _ (hgX.alloc _) (Nat.le_refl _)
          have f1 := ho4.cell (((Gr.refl wX none).alloc _).cell e1 (by simp)) (fun h => by have := HAO.out _ h; simp at this)
          have f2 := ho4.cell (((Gr.refl wX none).alloc _).cell e2 (by simp)) (fun h => by have := HAO.out _ h; simp at this)
          have f0 := ho4.cell (((Gr.refl wX none).alloc _).cell e0 (by simp)) (fun h => by have := HAO.out _ h; simp at this)
          have fq := hG4.cell Q1.out (by simp)
          have ft := hG4.cell HTW.out (by simp)
          clear e0 e1 e2 q0
          go_wp2_with (first | (go_at_call 108; refine (specIsRef_any _ _).mono ?_; rw [HR2.out]; rintro e w' ⟨rfl, rfl⟩) | (at_builtin; refine app_r w4 _ rfl (.tmp 52) (.tmp 58) 44 rfl 47 3 24 _ Try.underlying44 BdInfo rfl (by decide) (by decide) w.heap.size w1.heap.size (some ⟨g4, 0, none⟩) cap4 (n + 1) _ [.int .i64 q.x, .int .i64 (-1), .int .i64 j] rfl hC4 ((Gr.refl _ _).alloc _) w4.heap.size 1 rfl _ (heap1_0 _ _) rfl rfl (row_int3 _ _ _) (by omega) hG4.size ?_; rintro g5 cap5 w5 hC5 hg5 ho5))
          go_roundw
          case rel => exact ⟨k + 1, n + 1 + 1, cap5, _, by omega, by go_num, rfl, by rw [HY.out]; exact hC5, hg5 _ (hG4.alloc _) (Nat.le_refl _)⟩
          case measure => simp [intOf]; omega
        | false =>
          have hY : collR (boundRow p.types L) (k + 1) = collR (boundRow p.types L) k ++ [[.int .i64 q.x, .int .i64 k, .int .i64 (-1)]] := by
            rw [collR, HI.out]; unfold bound1 bound2; rw [if_pos hl, if_neg (by rw [hr]; simp)]; simp
          have HY := Lib.hid hY
          have HR2 := Lib.hid hr
          have HL := Lib.hid hl
          clear hY hl hr
          go_upto_region 10 with (at_builtin; refine app_r wX _ rfl (.tmp 30) (.tmp 35) 44 rfl 47 3 24 _ Try.underlying44 BdInfo rfl (by decide) (by decide) w.heap.size w1.heap.size ao cap n _ [.int .i64 q.x, .int .i64 k, .int .i64 (-1)] rfl HCX.out ((Gr.refl _ _).alloc _) wX.heap.size 1 rfl _ (heap1_0 _ _) rfl rfl (row_int3 _ _ _) (by omega) hgX.size ?_; rintro g4 cap4 w4 hC4 hg4 ho4)
          have hG4 : Gr w1 w4 none := hg4 _ (hgX.alloc _) (Nat.le_refl _)
          have f1 := ho4.cell (((Gr.refl wX none).alloc _).cell e1 (by simp)) (fun h => by have := HAO.out _ h; simp at this)
          have f2 := ho4.cell (((Gr.refl wX none).alloc _).cell e2 (by simp)) (fun h => by have := HAO.out _ h; simp at this)
          have f0 := ho4.cell (((Gr.refl wX none).alloc _).cell e0 (by simp)) (fun h => by have := HAO.out _ h; simp at this)
          have fq := hG4.cell Q1.out (by simp)
          have ft := hG4.cell HTW.out (by simp)
          clear e0 e1 e2 q0
          go_wp2_with (go_at_call 108; refine (specIsRef_any _ _).mono ?_; rw [HR2.out]; rintro e w' ⟨rfl, rfl⟩)
          go_roundw
          case rel => exact ⟨k + 1, n + 1, cap4, _, by omega, by go_num, rfl, by rw [HY.out]; exact hC4, hG4⟩
          case measure => simp [intOf]; omega
      | false =>
        by_cases h3 : q.op = 3
        · obtain ⟨j, hj, hjl, hty⟩ := HTT.out (.inr h3)
          obtain ⟨bt, ot, rfl, -, ht⟩ := HT.out.at hjl
          rw [hj] at e2
          rw [← hty] at ht
          have HJ := Lib.hid hj
          have HTW := Lib.hid ht
          clear hj hty ht
          rw [h3] at e0
          have hbt : bt < w1.heap.size := lt_of_cell HTW.out
          have ht := hgX.cell HTW.out (by simp)
          cases hr : isRef (tyOf p.types q.y) with
          | true =>
            have hY : collR (boundRow p.types L) (k + 1) = collR (boundRow p.types L) k ++ [[.int .i64 q.x, .int .i64 (-1), .int .i64 j]] := by
              rw [collR, HI.out]; unfold bound1 bound2; rw [if_neg (by rw [hl]; simp), if_pos (by rw [hl, hr, h3]; rfl), HJ.out]; simp
            have HY := Lib.hid hY
            have HR2 := Lib.hid hr
            have HL := Lib.hid hl
            clear hY hl hr h3
            go_wp2_with (first | (go_at_call 108; refine (specIsRef_any _ _).mono ?_; rw [HR2.out]; rintro e w' ⟨rfl, rfl⟩) | (at_builtin; refine app_r wX _ rfl (.tmp 52) (.tmp 58) 44 rfl 47 3 24 _ Try.underlying44 BdInfo rfl (by decide) (by decide) w.heap.size w1.heap.size ao cap n _ [.int .i64 q.x, .int .i64 (-1), .int .i64 j] rfl HCX.out ((Gr.refl _ _).alloc _) wX.heap.size 1 rfl _ (heap1_0 _ _) rfl rfl (row_int3 _ _ _) (by omega) hgX.size ?_; rintro g5 cap5 w5 hC5 hg5 ho5))
            go_roundw
            case rel => exact ⟨k + 1, n + 1, cap5, _, by omega, by go_num, rfl, by rw [HY.out]; exact hC5, hg5 _ (hgX.alloc _) (Nat.le_refl _)⟩
            case measure => simp [intOf]; omega
          | false =>
            have hY : collR (boundRow p.types L) (k + 1) = collR (boundRow p.types L) k := by
              rw [collR, HI.out]; unfold bound1 bound2; rw [if_neg (by rw [hl]; simp), if_neg (by rw [hr]; simp)]; simp
            have HY := Lib.hid hY
            have HR2 := Lib.hid hr
            have HL := Lib.hid hl
            clear hY hl hr h3
            go_wp2_with (go_at_call 108; refine (specIsRef_any _ _).mono ?_; rw [HR2.out]; rintro e w' ⟨rfl, rfl⟩)
            go_roundw
            case rel => exact ⟨k + 1, n, cap, ao, by omega, by go_num, rfl, by rw [HY.out]; exact HCX.out, hgX⟩
            case measure => simp [intOf]; omega
        · have hY : collR (boundRow p.types L) (k + 1) = collR (boundRow p.types L) k := by
            rw [collR, HI.out]; unfold bound1 bound2; rw [if_neg (by rw [hl]; simp), if_neg (by rw [hl]; simp [h3])]; simp
          have HY := Lib.hid hY
          have HL := Lib.hid hl
          clear hY hl
          go_wp2_with fail
          go_roundw
          case rel => exact ⟨k + 1, n, cap, ao, by omega, by go_num, rfl, by rw [HY.out]; exact HCX.out, hgX⟩
          case measure => simp [intOf]; omega
    · obtain rfl : k = L.length := by omega
      go_wp2_with fail
      go_ret
      exact HCo.out.hand (by rw [HM.out]; rfl) (hG1.trans0 hgr)
end Go.Proofs.Ytpnaeijkllmihaa

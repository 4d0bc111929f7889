/- Walks of CountStmts and CountChoices, in the program. -/
import Derived.Test.YtadidppbhpdnkaaY4

namespace Go.Proofs.Ytadidppbhpdnkaa

open Go.RowKit

theorem wrap3 (q a b : Nat) (h : q + a + b + 1 ≤ 1000001) : IntKind.i64.wrap ((q : Int) + IntKind.i64.wrap (IntKind.i64.wrap (1 + (a : Int)) + (b : Int))) = ((q + (1 + (a + b)) : Nat) : Int) := by
  have e1 : IntKind.i64.wrap (1 + (a : Int)) = ((1 + a : Nat) : Int) := by rw [IntWalk.i64_in _ (by omega)]; omega
  have e2 : IntKind.i64.wrap (((1 + a : Nat) : Int) + (b : Int)) = ((1 + a + b : Nat) : Int) := by rw [IntWalk.i64_in _ (by omega)]; omega
  rw [e1, e2, IntWalk.i64_in _ (by omega)]; omega
def CntC (n : Nat) : Prop := ∀ (l : List St) (a : Option Addr) (c : Nat) (w : World), St.count l ≤ n → n ≤ 1000000 → SlAt w Any l a →
  Calls Try.prog 70 #[.slice a l.length c] w fun e w' => e = .returned (.int .i64 (St.count l : Nat)) ∧ Gr w w' none
set_option maxRecDepth 100000 in
set_option maxHeartbeats 4000000 in
theorem cnt_step (n : Nat) (hA : ∀ m, m < n → CntC m) : CntC n := by
  intro l a c w hn hnm hL
  have HA := Lib.hid hA
  clear hA
  have hlc := length_count l
  have hcl : ∀ j, St.count (l.take j) ≤ St.count l := fun j => count_take_le l j
  have HCL := Lib.hid hcl
  clear hcl
  go_enter Try.func70, Try.ntmps70
  go_wp2
  go_loopw [3, 8] (fun v i wr => ∃ j : Nat, j ≤ l.length ∧ i = .int .i64 j ∧ v = .int .i64 (St.count (l.take j) : Nat) ∧ Gr w wr none) (fun _ i _ => l.length - (intOf i).toNat)
  case atStart => exact ⟨0, Nat.zero_le _, rfl, by simp [St.count], Gr.refl _ _⟩
  case round =>
    obtain ⟨j, hj, rfl, rfl, hg⟩ := hrel
    by_cases hlt : j < l.length
    · obtain ⟨b, off, rfl, hs⟩ := (hL.gr0 hg).at hlt
      have hin := count_get hlt
      have hct := count_take_succ hlt
      have hcj := HCL.out j
      have hcj1 := HCL.out (j + 1)
      obtain ⟨s, es⟩ : ∃ s, l[j] = s := ⟨_, rfl⟩
      obtain ⟨q, hq⟩ : ∃ q, St.count (l.take j) = q := ⟨_, rfl⟩
      obtain ⟨q1, hq1⟩ : ∃ q1, St.count (l.take (j + 1)) = q1 := ⟨_, rfl⟩
      rw [hq, hq1, es] at hct
      rw [es] at hs hin
      rw [hq] at hcj
      rw [hq1] at hcj1
      rw [hq]
      have HQ := Lib.hid hq1
      clear es hq hq1
      have hii : s.inner = St.count s.thn + St.count s.els := by cases s; rfl
      have HII := Lib.hid hii
      have HCT := Lib.hid hct
      clear hct hii
      obtain ⟨-, ht, he, at', ct, ae, ce, c0, c1, c2, c3, c4, c5, r4, r5⟩ := hs.out
      have HG := Lib.hid hg
      have R4 := Lib.hid r4
      have R5 := Lib.hid r5
      clear hg r4 r5 hs
      go_upto_region 5 with fail
      obtain ⟨wX, hwX⟩ : ∃ wX : World, wX = wr.alloc (.cells #[.int .i64 s.op, .int .i64 s.x, .int .i64 s.y, .int .i64 s.n, .slice at' s.thn.length ct, .slice ae s.els.length ce] 96) := ⟨_, rfl⟩
      have d4 : wX.cell? ⟨wr.heap.size, 4, none⟩ = some (.slice at' s.thn.length ct) := by rw [hwX]; exact cell_of_row _ _ _ _ _ _ (heap1_0 _ _)
      have d5 : wX.cell? ⟨wr.heap.size, 5, none⟩ = some (.slice ae s.els.length ce) := by rw [hwX]; exact cell_of_row _ _ _ _ _ _ (heap1_0 _ _)
      have HX := Lib.hid (show Gr wr wX none from by rw [hwX]; exact (Gr.refl _ _).alloc _)
      rw [← hwX]
      clear hwX c0 c1 c2 c3 c4 c5
      refine wp_region_held_drew (S := fun w' => Gr wX w' none) (by kernel_rfl) ((Gr.refl _ _).drew) (fun hHeld => ?_)
      refine wpAnyH_take (i := 0) (v := ?_) rfl (by kernel_rfl) (by kernel_rfl) (by kernel_rfl) (fun _ _ _ h => h) (Or.inl ⟨by rfl, ?_⟩) hHeld ?_
      rotate_left
      focus (intro wq hq; clear hq; go_simp; try with_reducible rfl)
      simp only [Act.put, List.getElem_toArray, List.getElem_cons_zero, List.setIfInBounds_toArray, List.set_cons_zero, List.set_cons_succ]
      refine wpAnyH_take (i := 1) (v := ?_) rfl (by kernel_rfl) (by kernel_rfl) (by kernel_rfl) (fun _ _ _ h => h) (Or.inl ⟨by rfl, ?_⟩) hHeld ?_
      rotate_left
      focus (intro wq hq; clear hq; go_simp; try with_reducible rfl)
      simp only [Act.put, List.getElem_toArray, List.getElem_cons_succ, List.getElem_cons_zero, List.setIfInBounds_toArray, List.set_cons_zero, List.set_cons_succ]
      refine wpAnyH_take (i := 2) (v := ?_) rfl (by kernel_rfl) (by kernel_rfl) (by kernel_rfl) (fun _ _ _ h => h) (Or.inl ⟨by rfl, ?_⟩) hHeld ?_
      rotate_left
      focus (intro wq hq; have k0 := hq.cell d4 (by simp); go_simp; try with_reducible rfl)
      simp only [Act.put, List.getElem_toArray, List.getElem_cons_succ, List.getElem_cons_zero, List.setIfInBounds_toArray, List.set_cons_zero, List.set_cons_succ]
      refine wpAnyH_take (i := 5) (v := ?_) rfl (by kernel_rfl) (by kernel_rfl) (by kernel_rfl) (fun _ _ _ h => h) (Or.inl ⟨by rfl, ?_⟩) hHeld ?_
      rotate_left
      focus (intro wq hq; clear hq; go_simp; try with_reducible rfl)
      simp only [Act.put, List.getElem_toArray, List.getElem_cons_succ, List.getElem_cons_zero, List.setIfInBounds_toArray, List.set_cons_zero, List.set_cons_succ]
      refine wpAnyH_take (i := 6) (v := ?_) rfl (by kernel_rfl) (by kernel_rfl) (by kernel_rfl) (fun _ _ _ h => h) (Or.inl ⟨by rfl, ?_⟩) hHeld ?_
      rotate_left
      focus (intro wq hq; have k0 := hq.cell d5 (by simp); go_simp; try with_reducible rfl)
      simp only [Act.put, List.getElem_toArray, List.getElem_cons_succ, List.getElem_cons_zero, List.setIfInBounds_toArray, List.set_cons_zero, List.set_cons_succ]
      refine wpAnyH_ready (rs := [3]) (by kernel_rfl) (by simp) ?_
      refine AllReadyH.cons rfl (fun K hK => ?_) AllReadyH.nil
      go_simp
      refine (HA.out (St.count s.thn) (by have := HII.out; omega) s.thn at' ct _ (Nat.le_refl _) (by have := HII.out; omega) ((R4.out.gr0 HX.out).gr0 hHeld)).mono ?_
      rintro e w8 ⟨rfl, hg8⟩
      try dsimp only
      refine hK.out _ _ (hHeld.trans0 hg8) (fun hHeld => ?_)
      clear hK K
      try simp only [Act.put, List.getElem_toArray, List.getElem_cons_succ, List.getElem_cons_zero, List.setIfInBounds_toArray, List.set_cons_zero, List.set_cons_succ]
      refine wpAnyH_take (i := 4) (v := ?_) rfl (by kernel_rfl) (by kernel_rfl) (by kernel_rfl) (fun _ _ _ h => h) (Or.inl ⟨by rfl, ?_⟩) hHeld ?_
      rotate_left
      focus (intro wq hq; clear hq; go_simp; try with_reducible rfl)
      simp only [Act.put, List.getElem_toArray, List.getElem_cons_succ, List.getElem_cons_zero, List.setIfInBounds_toArray, List.set_cons_zero, List.set_cons_succ]
      refine wpAnyH_ready (rs := [7]) (by kernel_rfl) (by simp) ?_
      refine AllReadyH.cons rfl (fun K hK => ?_) AllReadyH.nil
      go_simp
      refine (HA.out (St.count s.els) (by have := HII.out; omega) s.els ae ce _ (Nat.le_refl _) (by have := HII.out; omega) ((R5.out.gr0 HX.out).gr0 hHeld)).mono ?_
      rintro e w8 ⟨rfl, hg8⟩
      try dsimp only
      refine hK.out _ _ (hHeld.trans0 hg8) (fun hHeld => ?_)
      clear hK K
      try simp only [Act.put, List.getElem_toArray, List.getElem_cons_succ, List.getElem_cons_zero, List.setIfInBounds_toArray, List.set_cons_zero, List.set_cons_succ]
      refine wpAnyH_take (i := 8) (v := ?_) rfl (by kernel_rfl) (by kernel_rfl) (by kernel_rfl) (fun _ _ _ h => h) (Or.inl ⟨by rfl, ?_⟩) hHeld ?_
      rotate_left
      focus (intro wq hq; clear hq; go_simp; try with_reducible rfl)
      simp only [Act.put, List.getElem_toArray, List.getElem_cons_succ, List.getElem_cons_zero, List.setIfInBounds_toArray, List.set_cons_zero, List.set_cons_succ]
      refine wpAnyH_take (i := 9) (v := ?_) rfl (by kernel_rfl) (by kernel_rfl) (by kernel_rfl) (fun _ _ _ h => h) (Or.inl ⟨by rfl, ?_⟩) hHeld ?_
      rotate_left
      focus (intro wq hq; clear hq; go_simp; try with_reducible rfl)
      simp only [Act.put, List.getElem_toArray, List.getElem_cons_succ, List.getElem_cons_zero, List.setIfInBounds_toArray, List.set_cons_zero, List.set_cons_succ]
      refine wpAnyH_take (i := 10) (v := ?_) rfl (by kernel_rfl) (by kernel_rfl) (by kernel_rfl) (fun _ _ _ h => h) (Or.inl ⟨by rfl, ?_⟩) hHeld ?_
      rotate_left
      focus (intro wq hq; clear hq; go_simp; try with_reducible rfl)
      simp only [Act.put, List.getElem_toArray, List.getElem_cons_succ, List.getElem_cons_zero, List.setIfInBounds_toArray, List.set_cons_zero, List.set_cons_succ]
      refine wpAnyH_done (by kernel_rfl) ?_ _
      go_wp2_with fail
      go_roundw
      case rel => exact ⟨j + 1, by omega, by go_num, by rw [HQ.out, wrap3 _ _ _ (by have := HCT.out; have := HII.out; omega)]; congr 1; have := HCT.out; have := HII.out; omega, (HG.out.trans0 HX.out).trans0 hHeld⟩
      case measure => simp [intOf]; omega
    · obtain rfl : j = l.length := by omega
      go_wp2
      go_ret
      exact ⟨ret_int (by rw [List.take_length]), hg⟩
theorem cnt_all : ∀ n, CntC n := fun n => Nat.strongRecOn n fun n ih => cnt_step n ih
/-- What CountStmts says. -/
def cntOf (p : Pr) : Nat := if validP p = true then St.count p.body else 0
theorem cntOf_in {p : Pr} (h : validP p = true) : cntOf p = St.count p.body := by unfold cntOf; rw [if_pos h]
theorem cntOf_out {p : Pr} (h : validP p = false) : cntOf p = 0 := by unfold cntOf; rw [h]; rfl
set_option maxHeartbeats 1000000 in
theorem implCountStmts_any (p : Pr) (at' ab : Option Addr) (ct cb : Nat) (w : World) (hT : InAt w Any p.types at') (hB : SlAt w Any p.body ab) (hs : p.types.length ≤ 1048576) (hc : p.body.length ≤ 1048576) :
    Calls Try.prog 38 #[.agg #[.slice at' p.types.length ct, .slice ab p.body.length cb]] w fun e w' => e = .returned (.int .i64 (cntOf p : Nat)) ∧ Gr w w' none := by
  have hg1 : ∀ o, Gr w (w.alloc o) none := fun o => (Gr.refl _ _).alloc _
  go_enter Try.func38, Try.ntmps38
  go_wp2_with fail
  refine (valid_any p at' ab ct cb _ (hT.gr0 (hg1 _)) (hB.gr0 (hg1 _)) hs hc).mono ?_
  rintro e w1 ⟨rfl, hg⟩
  have hG1 : Gr w w1 none := (hg1 _).trans0 hg
  have q1 : w1.cell? ⟨w.heap.size, 1, none⟩ = some (.slice ab p.body.length cb) := hg.cell (p := ⟨w.heap.size, 1, none⟩) (cell?_new2 _ _).2 (by simp)
  clear hg
  cases hv : validP p with
  | false =>
    have HO := Lib.hid (cntOf_out hv)
    clear hv
    go_wp2_with fail
    go_ret
    exact ⟨ret_int (by rw [HO.out]; rfl), hG1⟩
  | true =>
    have hcnt := valid_count hv
    have HO := Lib.hid (cntOf_in hv)
    clear hv
    go_wp2_with fail
    refine (cnt_all (St.count p.body) p.body ab cb _ (Nat.le_refl _) (by omega) (hB.gr0 hG1)).mono ?_
    rintro e w2 ⟨rfl, hg2⟩
    go_wp2_with fail
    go_ret
    exact ⟨ret_int (by rw [HO.out]), hG1.trans0 hg2⟩
theorem isChoice_any (op x y n : Int) (a : Option Addr) (m c : Nat) (w : World) :
    Calls Try.prog 71 #[.agg #[.int .i64 op, .int .i64 x, .int .i64 y, .int .i64 n, .slice a m c]] w fun e w' => e = .returned (.bool ((m : Int) == 2)) ∧ Gr w w' none := by
  go_enter Try.func71, Try.ntmps71
  go_wp2
  all_goals go_ret
  all_goals exact ⟨ret_bool (by first | rfl | (simp [*]; done) | (simp_all; done)), (Gr.refl _ _).alloc _⟩
theorem chs_le (l : List Pt) : chs l ≤ l.length := List.countP_le_length
theorem chs_take {l : List Pt} {j : Nat} (h : j < l.length) : chs (l.take (j + 1)) = chs (l.take j) + (if (l[j].next.length == 2) = true then 1 else 0) := by
  rw [List.take_succ_eq_append_getElem h, chs_app]
  simp [chs, List.countP_cons]
set_option maxRecDepth 100000 in
set_option maxHeartbeats 2000000 in
theorem implCountChoices_any (p : Pr) (at' ab : Option Addr) (ct cb : Nat) (w : World) (hT : InAt w Any p.types at') (hB : SlAt w Any p.body ab) (hs : p.types.length ≤ 1048576) (hc : p.body.length ≤ 1048576) :
    Calls Try.prog 39 #[.agg #[.slice at' p.types.length ct, .slice ab p.body.length cb]] w fun e w' => e = .returned (.int .i64 (chs (ptsOf p) : Nat)) ∧ Gr w w' none := by
  have hg1 : ∀ o, Gr w (w.alloc o) none := fun o => (Gr.refl _ _).alloc _
  have hml := ptsOf_le p
  go_enter Try.func39, Try.ntmps39
  go_wp2_with fail
  refine (implPointsOf_any p at' ab ct cb _ (hT.gr0 (hg1 _)) (hB.gr0 (hg1 _)) hs hc).mono ?_
  rintro e w1 ⟨M, am, c, hM, rfl, hown, hg⟩
  have HM := Lib.hid hM
  rw [← hM] at hml
  clear hM
  have HG := Lib.hid ((hg1 _).trans0 hg)
  have HR := Lib.hid hown.read
  clear hg hown
  go_wp2_with fail
  go_loopw [3, 9] (fun v i wr => ∃ k : Nat, k ≤ M.length ∧ i = .int .i64 k ∧ v = .int .i64 (chs (M.take k) : Nat) ∧ Gr w1 wr none) (fun _ i _ => M.length - (intOf i).toNat)
  case atStart => exact ⟨0, Nat.zero_le _, rfl, rfl, Gr.refl _ _⟩
  case round =>
    obtain ⟨k, hk, rfl, rfl, hg⟩ := hrel
    have HGk := Lib.hid hg
    have hck := chs_le (M.take k)
    have htl : (M.take k).length ≤ k := by rw [List.length_take]; omega
    by_cases hlt : k < M.length
    · obtain ⟨b1, o1, rfl, hpt⟩ := (HR.out.gr hg) k hlt
      have HCT := Lib.hid (chs_take hlt)
      obtain ⟨q, hq⟩ : ∃ q, M[k] = q := ⟨_, rfl⟩
      rw [hq] at hpt
      have HCQ := Lib.hid (show chs (M.take (k + 1)) = chs (M.take k) + (if (q.next.length == 2) = true then 1 else 0) from by rw [HCT.out, hq])
      obtain ⟨m, hm⟩ : ∃ m, chs (M.take k) = m := ⟨_, rfl⟩
      have HM2 := Lib.hid (show chs (M.take (k + 1)) = m + (if (q.next.length == 2) = true then 1 else 0) from by rw [HCQ.out, hm])
      rw [hm] at hck ⊢
      clear hq hg HCT HCQ hm
      obtain ⟨an, cn, c0, c1, c2, c3, c4, -, -⟩ := hpt
      go_wp2_with fail
      refine (isChoice_any q.op q.x q.y q.n an q.next.length cn _).mono ?_
      rintro e w2 ⟨rfl, hg2⟩
      by_cases h2 : q.next.length = 2
      · have h2' : ((q.next.length : Int) == 2) = true := by rw [h2]; rfl
        have HB := Lib.hid (show (q.next.length == 2) = true from by rw [h2]; rfl)
        clear h2
        go_wp2_with fail
        go_roundw
        case rel => exact ⟨k + 1, by omega, by go_num, by rw [HM2.out, if_pos HB.out]; go_num, (HGk.out.alloc _).trans0 hg2⟩
        case measure => simp [intOf]; omega
      · have h2' : ((q.next.length : Int) == 2) = false := beq_eq_false_iff_ne.2 (by omega)
        have HB := Lib.hid (show ¬ (q.next.length == 2) = true from by simpa using h2)
        clear h2
        go_wp2_with fail
        go_roundw
        case rel => exact ⟨k + 1, by omega, by go_num, by rw [HM2.out, if_neg HB.out]; rfl, (HGk.out.alloc _).trans0 hg2⟩
        case measure => simp [intOf]; omega
    · obtain rfl : k = M.length := by omega
      go_wp2_with fail
      go_ret
      exact ⟨ret_int (by rw [List.take_length, HM.out]), HG.out.trans0 hg⟩
end Go.Proofs.Ytadidppbhpdnkaa

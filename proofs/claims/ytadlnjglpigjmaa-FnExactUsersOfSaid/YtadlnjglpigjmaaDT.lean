/- What variables can have: walks of CellsOf, SettersOf, NumbersOf, NumberOf of the reference, and of NumbersOf and NumberOf of the program. -/
import Derived.Test.YtadlnjglpigjmaaDR

import Derived.Test.YtadlnjglpigjmaaDS

import Derived.Deep.RegionWith

namespace Go.Proofs.Ytadlnjglpigjmaa

open Go.RowKit

theorem kind_set (p : Pr) : KindOk p 1 (pts p).length setV := by
  refine ⟨.inr (.inl rfl), setV_mono, fun _ => rfl, (fun h => by omega), fun i hi F hF k => ?_⟩
  unfold valB setV
  rw [if_pos rfl, decide_eq_true_eq]
  exact ⟨fun h => h.2, fun h => ⟨by omega, h⟩⟩
theorem kind_num {p : Pr} (hv : validP p = true) : KindOk p 2 10 (numV (pts p)) := by
  refine ⟨.inr (.inr rfl), numV_mono _, (fun h => by omega), fun _ => rfl, fun i hi F hF k => ?_⟩
  have hn := pt_n hv hi
  unfold valB numV
  rw [if_neg (by omega), if_neg (by omega)]
  by_cases h1 : (ptAt (pts p) i).op = 1
  · rw [if_pos h1, decide_eq_true_eq]
    obtain ⟨n, hn1, hn2⟩ := hn h1
    constructor
    · exact fun h => .inl ⟨h1, h.2⟩
    · rintro (h | h | h)
      · exact ⟨by omega, h.2⟩
      · omega
      · omega
  · rw [if_neg h1]
    by_cases h3 : (ptAt (pts p) i).op = 3
    · rw [if_pos h3]
      constructor
      · exact fun h => .inr (.inl ⟨h3, h.2⟩)
      · rintro (h | h | h)
        · omega
        · exact ⟨(hF _ _ h.2).2, h.2⟩
        · omega
    · rw [if_neg h3, decide_eq_true_eq]
      constructor
      · exact fun h => .inr (.inr ⟨h.2, h.1⟩)
      · rintro (h | h | h)
        · exact absurd h.1 h1
        · exact absurd h.1 h3
        · exact ⟨h.2, h.1⟩
set_option maxRecDepth 100000 in
set_option maxHeartbeats 4000000 in
theorem specCellsOf_any (p : Pr) (a v : Int) (at' ab : Option Addr) (ct cb : Nat) (w : World) (hT : InAt w Any p.types at') (hB : SlAt w Any p.body ab) (hs : p.types.length ≤ 1048576) (hc : St.count p.body ≤ 1048576) :
    Calls Try.prog 42 #[.agg #[.slice at' p.types.length ct, .slice ab p.body.length cb], .int .i64 a, .int .i64 v] w (HandI (cellsOf p a v) w) := by
  have hlc := count_length p.body
  have hg1 : ∀ o, Gr w (w.alloc o) none := fun o => (Gr.refl _ _).alloc _
  go_enter Try.func42, Try.ntmps42
  go_wp2_with fail
  refine (l3Point_any p a v at' ab ct cb _ (hT.gr0 (hg1 _)) (hB.gr0 (hg1 _)) hs hc).mono ?_
  rintro e w1 ⟨rfl, hg⟩
  have hG1 : Gr w w1 none := (hg1 _).trans0 hg
  have q0 : w1.cell? ⟨w.heap.size, 0, none⟩ = some (.slice at' p.types.length ct) := hg.cell (p := ⟨w.heap.size, 0, none⟩) (cell?_new2 _ _).1 (by simp)
  have q1 : w1.cell? ⟨w.heap.size, 1, none⟩ = some (.slice ab p.body.length cb) := hg.cell (p := ⟨w.heap.size, 1, none⟩) (cell?_new2 _ _).2 (by simp)
  clear hg
  cases h1 : hasPoint p a v with
  | false =>
    have HO := Lib.hid (show cellsOf p a v = [] from trkOf_out h1)
    clear h1
    go_wp2_with fail
    go_ret
    rw [HO.out]
    exact Lst.hand (Lst.empty hG1.size hG1.size (heap1_0 _ _)) rfl (hG1.alloc _)
  | true =>
    obtain ⟨hv, i, j, rfl, rfl, hi, hj⟩ := hasPoint_pts h1
    have hcnt := valid_count hv
    have hml : (pts p).length ≤ 61 := pts_len hv
    have HV := Lib.hid hv
    have HKC := Lib.hid (show KindOk p 0 (pts p).length (cellV (pts p)) from kind_cells hv)
    have HO := Lib.hid (show cellsOf p i j = coll (trkB p (cellV (pts p)) i j) (pts p).length from trkOf_in h1)
    clear h1 hv
    go_upto_region 3 with fail
    go_cut [6] (fun s wx => HandI (coll (trkB p (cellV (pts p)) i j) (pts p).length) w (.returned s) wx)
    case first =>
      go_region_with (first | (go_at_call 71; refine (l2Points_any p at' ab ct cb _ (by exact hB.gr0 hG1.drew) (by omega) (by unfold maxLen; omega)).mono ?_; rintro e w3 ⟨M, am, c, hM, rfl, -, hg3⟩; have y0 := hg3.cell q0 (by simp); have y1 := hg3.cell q1 (by simp); have hMl : M.length = (pts p).length := (by rw [hM]); have HG3 := Lib.hid (show Gr w1 w3 none from (Gr.refl _ _).drew.trans0 hg3); clear hM hg3) | (go_at_call 73; (try rw [hMl]); refine (l10Flow_any p 0 (pts p).length (cellV (pts p)) at' ab ct cb _ (by exact (hT.gr0 hG1).gr0 HG3.out) (by exact (hB.gr0 hG1).gr0 HG3.out) HV.out HKC.out).mono ?_; rintro e w4 ⟨ao, c4, A, C, G, rfl, hT4, hg4⟩; obtain ⟨bh, oh, rfl, h0⟩ := hT4.head hi; have hjg : j < (G i).length := (by rw [(hT4.2 i hi).1]; exact hj); obtain ⟨bt, ot, eA, t0⟩ := tab_cell (hT4.2 i hi).2.1 hjg; rw [eA] at h0; have HR := Lib.hid ((hT4.2 i hi).2.2 j hjg); obtain ⟨gj, hgj⟩ : ∃ gj, (G i)[j] = gj := ⟨_, rfl⟩; rw [hgj] at t0 HR; have HG4 := Lib.hid (HG3.out.trans0 hg4); clear hT4 hg4 hgj eA hjg) | (go_at_call 56; refine (l3Numbers_any gj (pts p).length (pts p).length (trkB p (cellV (pts p)) i j) _ HR.out (by omega)).mono ?_; intro e w5 hh; have hhh := HandI.aft hh (hG1.trans0 HG4.out); obtain ⟨a5, c5, rfl, -⟩ := hh; have HH := Lib.hid hhh; clear hhh))
      all_goals
        go_wp2_with fail
        go_meet
        exact HH.out
    case rest =>
      have HC := Lib.hid hcut
      clear hcut
      go_wp2_with fail
      go_ret
      rw [HO.out]
      exact HC.out
set_option maxRecDepth 100000 in
set_option maxHeartbeats 4000000 in
theorem specSettersOf_any (p : Pr) (a v : Int) (at' ab : Option Addr) (ct cb : Nat) (w : World) (hT : InAt w Any p.types at') (hB : SlAt w Any p.body ab) (hs : p.types.length ≤ 1048576) (hc : St.count p.body ≤ 1048576) :
    Calls Try.prog 36 #[.agg #[.slice at' p.types.length ct, .slice ab p.body.length cb], .int .i64 a, .int .i64 v] w (HandI (settersOf p a v) w) := by
  have hlc := count_length p.body
  have hg1 : ∀ o, Gr w (w.alloc o) none := fun o => (Gr.refl _ _).alloc _
  go_enter Try.func36, Try.ntmps36
  go_wp2_with fail
  refine (l3Point_any p a v at' ab ct cb _ (hT.gr0 (hg1 _)) (hB.gr0 (hg1 _)) hs hc).mono ?_
  rintro e w1 ⟨rfl, hg⟩
  have hG1 : Gr w w1 none := (hg1 _).trans0 hg
  have q0 : w1.cell? ⟨w.heap.size, 0, none⟩ = some (.slice at' p.types.length ct) := hg.cell (p := ⟨w.heap.size, 0, none⟩) (cell?_new2 _ _).1 (by simp)
  have q1 : w1.cell? ⟨w.heap.size, 1, none⟩ = some (.slice ab p.body.length cb) := hg.cell (p := ⟨w.heap.size, 1, none⟩) (cell?_new2 _ _).2 (by simp)
  clear hg
  cases h1 : hasPoint p a v with
  | false =>
    have HO := Lib.hid (show settersOf p a v = [] from trkOf_out h1)
    clear h1
    go_wp2_with fail
    go_ret
    rw [HO.out]
    exact Lst.hand (Lst.empty hG1.size hG1.size (heap1_0 _ _)) rfl (hG1.alloc _)
  | true =>
    obtain ⟨hv, i, j, rfl, rfl, hi, hj⟩ := hasPoint_pts h1
    have hcnt := valid_count hv
    have hml : (pts p).length ≤ 61 := pts_len hv
    have HV := Lib.hid hv
    have HKC := Lib.hid (show KindOk p 1 (pts p).length setV from kind_set p)
    have HO := Lib.hid (show settersOf p i j = coll (trkB p setV i j) (pts p).length from trkOf_in h1)
    clear h1 hv
    go_upto_region 3 with fail
    go_cut [6] (fun s wx => HandI (coll (trkB p setV i j) (pts p).length) w (.returned s) wx)
    case first =>
      go_region_with (first | (go_at_call 71; refine (l2Points_any p at' ab ct cb _ (by exact hB.gr0 hG1.drew) (by omega) (by unfold maxLen; omega)).mono ?_; rintro e w3 ⟨M, am, c, hM, rfl, -, hg3⟩; have y0 := hg3.cell q0 (by simp); have y1 := hg3.cell q1 (by simp); have hMl : M.length = (pts p).length := (by rw [hM]); have HG3 := Lib.hid (show Gr w1 w3 none from (Gr.refl _ _).drew.trans0 hg3); clear hM hg3) | (go_at_call 73; (try rw [hMl]); refine (l10Flow_any p 1 (pts p).length setV at' ab ct cb _ (by exact (hT.gr0 hG1).gr0 HG3.out) (by exact (hB.gr0 hG1).gr0 HG3.out) HV.out HKC.out).mono ?_; rintro e w4 ⟨ao, c4, A, C, G, rfl, hT4, hg4⟩; obtain ⟨bh, oh, rfl, h0⟩ := hT4.head hi; have hjg : j < (G i).length := (by rw [(hT4.2 i hi).1]; exact hj); obtain ⟨bt, ot, eA, t0⟩ := tab_cell (hT4.2 i hi).2.1 hjg; rw [eA] at h0; have HR := Lib.hid ((hT4.2 i hi).2.2 j hjg); obtain ⟨gj, hgj⟩ : ∃ gj, (G i)[j] = gj := ⟨_, rfl⟩; rw [hgj] at t0 HR; have HG4 := Lib.hid (HG3.out.trans0 hg4); clear hT4 hg4 hgj eA hjg) | (go_at_call 56; refine (l3Numbers_any gj (pts p).length (pts p).length (trkB p setV i j) _ HR.out (by omega)).mono ?_; intro e w5 hh; have hhh := HandI.aft hh (hG1.trans0 HG4.out); obtain ⟨a5, c5, rfl, -⟩ := hh; have HH := Lib.hid hhh; clear hhh))
      all_goals
        go_wp2_with fail
        go_meet
        exact HH.out
    case rest =>
      have HC := Lib.hid hcut
      clear hcut
      go_wp2_with fail
      go_ret
      rw [HO.out]
      exact HC.out
set_option maxRecDepth 100000 in
set_option maxHeartbeats 4000000 in
theorem specNumbersOf_any (p : Pr) (a v : Int) (at' ab : Option Addr) (ct cb : Nat) (w : World) (hT : InAt w Any p.types at') (hB : SlAt w Any p.body ab) (hs : p.types.length ≤ 1048576) (hc : St.count p.body ≤ 1048576) :
    Calls Try.prog 40 #[.agg #[.slice at' p.types.length ct, .slice ab p.body.length cb], .int .i64 a, .int .i64 v] w (HandI (numsOf p a v) w) := by
  have hg1 : ∀ o, Gr w (w.alloc o) none := fun o => (Gr.refl _ _).alloc _
  go_enter Try.func40, Try.ntmps40
  go_wp2_with fail
  refine (l3Point_any p a v at' ab ct cb _ (hT.gr0 (hg1 _)) (hB.gr0 (hg1 _)) hs hc).mono ?_
  rintro e w1 ⟨rfl, hg⟩
  have hG1 : Gr w w1 none := (hg1 _).trans0 hg
  have q0 : w1.cell? ⟨w.heap.size, 0, none⟩ = some (.slice at' p.types.length ct) := hg.cell (p := ⟨w.heap.size, 0, none⟩) (cell?_new2 _ _).1 (by simp)
  have q1 : w1.cell? ⟨w.heap.size, 1, none⟩ = some (.slice ab p.body.length cb) := hg.cell (p := ⟨w.heap.size, 1, none⟩) (cell?_new2 _ _).2 (by simp)
  clear hg
  cases h1 : hasPoint p a v with
  | false =>
    have HO := Lib.hid (numsOf_out h1)
    clear h1
    go_wp2_with fail
    go_ret
    rw [HO.out]
    exact Lst.hand (Lst.empty hG1.size hG1.size (heap1_0 _ _)) rfl (hG1.alloc _)
  | true =>
    obtain ⟨hv, i, j, rfl, rfl, hi, hj⟩ := hasPoint_pts h1
    have HV := Lib.hid hv
    have HKC := Lib.hid (kind_num hv)
    obtain ⟨bt, ot, rfl, -, t0⟩ := (hT.gr0 hG1).at hj
    obtain ⟨ty, hty⟩ : ∃ ty, p.types[j] = ty := ⟨_, rfl⟩
    rw [hty] at t0
    have hgd : p.types.getD j 0 = ty := by rw [List.getD_eq_getElem?_getD, List.getElem?_eq_getElem hj, hty]; rfl
    by_cases h1t : ty = 1
    · have HO := Lib.hid (numsOf_in h1 (by rw [hgd, h1t]))
      subst h1t
      clear h1 hv hty hgd
      go_wp2_with fail
      refine (l10Flow_any p 2 10 (numV (pts p)) _ ab ct cb _ (hT.gr0 hG1) (hB.gr0 hG1) HV.out HKC.out).mono ?_
      rintro e w4 ⟨ao, c4, A, C, G, rfl, hT4, hg4⟩
      obtain ⟨bh, oh, rfl, h0⟩ := hT4.head hi
      have hjg : j < (G i).length := by rw [(hT4.2 i hi).1]; exact hj
      obtain ⟨bt2, ot2, eA, t1⟩ := tab_cell (hT4.2 i hi).2.1 hjg
      rw [eA] at h0
      have HR := Lib.hid ((hT4.2 i hi).2.2 j hjg)
      obtain ⟨gj, hgj⟩ : ∃ gj, (G i)[j] = gj := ⟨_, rfl⟩
      rw [hgj] at t1 HR
      obtain ⟨n, hn⟩ : ∃ n, (pts p).length = n := ⟨_, rfl⟩
      rw [hn] at hi ⊢
      have hG4 := hG1.trans0 hg4
      clear hT4 hg4 hgj eA hjg hn
      go_wp2_with fail
      refine (l3Numbers_any gj 10 10 (trkB p (numV (pts p)) i j) _ HR.out (by omega)).mono ?_
      rw [← HO.out]
      intro e w5 hh
      have hhh := HandI.aft hh hG4
      obtain ⟨a5, c5, rfl, -⟩ := hh
      have HH := Lib.hid hhh
      clear hhh
      go_wp2_with fail
      go_ret
      exact HH.out
    · have HO := Lib.hid (numsOf_out2 (p := p) (i := i) (j := j) (by rw [hgd]; exact h1t))
      have hne : (ty != 1) = true := by simpa using h1t
      clear h1 hv hty hgd h1t
      go_wp2_with fail
      go_ret
      rw [HO.out]
      exact Lst.hand (Lst.empty hG1.size hG1.size (heap1_0 _ _)) rfl (hG1.alloc _)
set_option maxRecDepth 100000 in
set_option maxHeartbeats 2000000 in
theorem implNumbersOf_any (p : Pr) (a v : Int) (at' ab : Option Addr) (ct cb : Nat) (w : World) (hT : InAt w Any p.types at') (hB : SlAt w Any p.body ab) (hs : p.types.length ≤ 1048576) (hc : p.body.length ≤ 1048576) :
    Calls Try.prog 41 #[.agg #[.slice at' p.types.length ct, .slice ab p.body.length cb], .int .i64 a, .int .i64 v] w (HandI (numsOf p a v) w) := by
  have hg1 : ∀ o o', Gr w ((w.alloc o).alloc o') none := fun o o' => ((Gr.refl _ _).alloc _).alloc _
  go_enter Try.func41, Try.ntmps41
  go_wp2_with fail
  refine (graphOf_any p [a] at' ab _ ct cb _ _ (hT.gr0 (hg1 _ _)) (hB.gr0 (hg1 _ _)) (inAt_one _ _ _) hs hc (by simp)).mono ?_
  rintro e w1 ⟨hg, hif⟩
  have hG1 : Gr w w1 none := (hg1 _ _).trans0 hg
  clear hg
  rw [graph_one'] at hif
  by_cases hok : 0 ≤ a ∧ a < (ptsOf p).length
  · rw [if_pos (by simp [hok])] at hif
    obtain ⟨gb, rfl, hgb, hGA⟩ := hif
    have hv : validP p = true := valid_pos' (by omega)
    have hp : ptsOf p = pts p := by unfold ptsOf; rw [if_pos hv]
    rw [hp] at hok
    obtain ⟨i, rfl⟩ := Int.eq_ofNat_of_zero_le hok.1
    have hi : i < (pts p).length := by omega
    have HV := Lib.hid hv
    have h6 := valid_types hv
    have hl : (pts p).length ≤ 61 := pts_len hv
    have hgX : ∀ o, Gr w1 (w1.alloc o) none := fun o => (Gr.refl _ _).alloc _
    have HGX := Lib.hid hgX
    clear hok hv hp hgX
    go_wp2_with fail
    refine (isVar_any p gb v _ (hGA.gr (HGX.out _)) hs).mono ?_
    rw [within_var]
    rintro e w2 ⟨rfl, rfl⟩
    cases hw : (decide (0 ≤ v) && decide (v < p.types.length)) with
    | false =>
      have HO := Lib.hid (numsOf_out (p := p) (a := i) (v := v) (hasPoint_no2 hw))
      clear hw
      go_wp2_with fail
      go_ret
      rw [HO.out]
      exact HandI.nil _ _ (hG1.trans0 (HGX.out _))
    | true =>
      simp only [Bool.and_eq_true, decide_eq_true_eq] at hw
      obtain ⟨j, rfl⟩ := Int.eq_ofNat_of_zero_le hw.1
      have hj : j < p.types.length := by omega
      have hj6 : j < 6 := by omega
      have hGA2 := hGA
      obtain ⟨L, a3, n3, a4, n4, al, cl, hL, d0, d1, d2, hr1, hr2, hr3⟩ := hGA2
      obtain ⟨bt, ot, rfl, -, t0⟩ := hr1.at hj
      obtain ⟨ty, hty⟩ : ∃ ty, p.types[j] = ty := ⟨_, rfl⟩
      rw [hty] at t0
      have hgd : p.types.getD j 0 = ty := by rw [List.getD_eq_getElem?_getD, List.getElem?_eq_getElem hj, hty]; rfl
      have u0 := fun A => (HGX.out A).cell t0 (by simp)
      have u1 := fun A => (HGX.out A).cell d0 (by simp)
      have HGA := Lib.hid hGA
      by_cases h1t : ty = 1
      · have HO := Lib.hid (numsOf_in (hasPoint_of HV.out hi hj) (by rw [hgd, h1t]))
        have HIN := Lib.hid (fun k (h : trkB p (numV (pts p)) i j k = true) => nums_small HV.out h)
        have HC := Lib.hid (show ∀ (i : Nat) (O : Nat → Nat) (w' : World), Gr (w1.alloc (.cells #[.pointer (some ⟨gb, 0, none⟩)] 58)) w' none → i < (pts p).length → 0 ≤ setOf (ptAt (pts p) i).op (ptAt (pts p) i).x → (∀ v, O v < 2 ^ 64) → Calls Try.prog 82 #[.int .i64 i, .agg (words O), .pointer (some ⟨w1.heap.size, 0, none⟩)] w' (Tells (numV (pts p)) i O w') from
          fun i O w' hg hi _ hO => numbers1_any p gb w1.heap.size i O w' (hg.cell (cell_of_row _ _ _ _ _ _ (heap1_0 _ _)) (by simp)) (HGA.out.gr ((HGX.out _).trans0 hg)) HV.out hi hO)
        subst h1t
        clear hw hL d0 d1 d2 hr1 hr2 hr3 t0 hty hgd hGA
        go_wp2_with fail
        refine (trackedN_any p gb w1.heap.size (numV (pts p)) (numV_mono _) _ (HGA.out.gr (HGX.out _)) HV.out HC.out).mono ?_
        rintro e w3 ⟨g, W, rfl, hF, h64, ht, hg3⟩
        have tj := hF.cell hi hj6
        have HO2 := Lib.hid (show coll (W i j).testBit 64 = numsOf p i j from by
          rw [HO.out, ← coll_up (F := trkB p (numV (pts p)) i j) (fun k hk => ?_) 64 (by omega)]
          · refine coll_congr fun k _ => ?_
            rw [Bool.eq_iff_iff, trkB_iff]
            exact ht i (j, k)
          · cases h : trkB p (numV (pts p)) i j k with
            | false => rfl
            | true => have := HIN.out k h; omega)
        have H1 := Lib.hid (h64 i j)
        obtain ⟨x, hx⟩ : ∃ x, W i j = x := ⟨_, rfl⟩
        rw [hx] at tj HO2 H1
        obtain ⟨n, hn⟩ : ∃ n, (pts p).length = n := ⟨_, rfl⟩
        rw [hn] at hi ⊢
        clear hF h64 ht hx hn hl u0 u1
        go_wp2_with fail
        refine (loanBits_any x _ H1.out).mono ?_
        rw [HO2.out]
        intro e w4 hh
        have hhh := HandI.aft hh (hG1.trans0 ((HGX.out _).trans0 hg3))
        obtain ⟨a4', c4', rfl, -⟩ := hh
        have HH := Lib.hid hhh
        clear hhh
        go_wp2_with fail
        go_ret
        exact HH.out
      · have HO := Lib.hid (numsOf_out2 (p := p) (i := i) (j := j) (by rw [hgd]; exact h1t))
        have hne : (ty != 1) = true := by simpa using h1t
        clear hw hL d0 d1 d2 hr1 hr2 hr3 t0 hty hgd hGA h1t
        go_wp2_with fail
        go_ret
        rw [HO.out]
        exact HandI.nil _ _ (hG1.trans0 (HGX.out _))
  · rw [if_neg (by simp; omega)] at hif
    subst hif
    have HO := Lib.hid (numsOf_out (p := p) (a := a) (v := v) (hasPoint_no1 hok))
    clear hok
    go_wp2_with fail
    go_ret
    rw [HO.out]
    exact HandI.nil _ _ (hG1.alloc _)
def NumOk2 (x : Int × Bool) (w : World) (e : Ending) (w' : World) : Prop := e = .returned (.tuple #[.int .i64 x.1, .bool x.2]) ∧ Gr w w' none
theorem numOf_one {l : List Int} (h : 0 < l.length) (h1 : l.length = 1) : numOf l = (l[0], true) := by
  match l, h1 with
  | [x], _ => rfl
theorem numOf_no {l : List Int} (h1 : l.length ≠ 1) : numOf l = (0, false) := by
  match l, h1 with
  | [], _ => rfl
  | [x], h => simp at h
  | x :: y :: r, _ => rfl
set_option maxRecDepth 100000 in
set_option maxHeartbeats 1000000 in
theorem specNumberOf_any (p : Pr) (a v : Int) (at' ab : Option Addr) (ct cb : Nat) (w : World) (hT : InAt w Any p.types at') (hB : SlAt w Any p.body ab) (hs : p.types.length ≤ 1048576) (hc : St.count p.body ≤ 1048576) :
    Calls Try.prog 27 #[.agg #[.slice at' p.types.length ct, .slice ab p.body.length cb], .int .i64 a, .int .i64 v] w (NumOk2 (numOf (numsOf p a v)) w) := by
  have hg1 : ∀ o, Gr w (w.alloc o) none := fun o => (Gr.refl _ _).alloc _
  go_enter Try.func27, Try.ntmps27
  go_wp2_with fail
  refine (specNumbersOf_any p a v at' ab ct cb _ (hT.gr0 (hg1 _)) (hB.gr0 (hg1 _)) hs hc).mono ?_
  have hll := numsOf_len p a v
  obtain ⟨l, hl⟩ : ∃ l, numsOf p a v = l := ⟨_, rfl⟩
  rw [hl] at hll ⊢
  have HL := Lib.hid hl
  clear hl
  rintro e w1 ⟨a1, c1, rfl, hI, -, -, hg⟩
  have hG1 : Gr w w1 none := (hg1 _).trans0 hg
  clear hg
  by_cases h1 : l.length = 1
  · have hpos : 0 < l.length := by omega
    obtain ⟨b, o, rfl, -, c0⟩ := hI.at hpos
    have HO := Lib.hid (numOf_one hpos h1)
    have h1' : ((l.length : Int) != 1) = false := by rw [h1]; rfl
    have hpI : (0 : Int) < (l.length : Int) := by omega
    have hpN : l ≠ [] := List.length_pos_iff.1 hpos
    simp only [Nat.add_zero] at c0
    obtain ⟨x, hx⟩ : ∃ x, l[0] = x := ⟨_, rfl⟩
    rw [hx] at c0 HO
    clear hx h1 hI
    go_wp2_with fail
    go_ret2
    rw [HL.out, HO.out]
    exact ⟨rfl, hG1⟩
  · have HO := Lib.hid (numOf_no h1)
    have h1' : ((l.length : Int) != 1) = true := by simp; omega
    clear h1 hI
    go_wp2_with fail
    go_ret2
    rw [HL.out, HO.out]
    exact ⟨rfl, hG1⟩
set_option maxRecDepth 100000 in
set_option maxHeartbeats 1000000 in
theorem implNumberOf_any (p : Pr) (a v : Int) (at' ab : Option Addr) (ct cb : Nat) (w : World) (hT : InAt w Any p.types at') (hB : SlAt w Any p.body ab) (hs : p.types.length ≤ 1048576) (hc : p.body.length ≤ 1048576) :
    Calls Try.prog 28 #[.agg #[.slice at' p.types.length ct, .slice ab p.body.length cb], .int .i64 a, .int .i64 v] w (NumOk2 (numOf (numsOf p a v)) w) := by
  have hg1 : ∀ o, Gr w (w.alloc o) none := fun o => (Gr.refl _ _).alloc _
  go_enter Try.func28, Try.ntmps28
  go_wp2_with fail
  refine (implNumbersOf_any p a v at' ab ct cb _ (hT.gr0 (hg1 _)) (hB.gr0 (hg1 _)) hs hc).mono ?_
  have hll := numsOf_len p a v
  obtain ⟨l, hl⟩ : ∃ l, numsOf p a v = l := ⟨_, rfl⟩
  rw [hl] at hll ⊢
  have HL := Lib.hid hl
  clear hl
  rintro e w1 ⟨a1, c1, rfl, hI, -, -, hg⟩
  have hG1 : Gr w w1 none := (hg1 _).trans0 hg
  clear hg
  by_cases h1 : l.length = 1
  · have hpos : 0 < l.length := by omega
    obtain ⟨b, o, rfl, -, c0⟩ := hI.at hpos
    have HO := Lib.hid (numOf_one hpos h1)
    have h1' : ((l.length : Int) != 1) = false := by rw [h1]; rfl
    have hpI : (0 : Int) < (l.length : Int) := by omega
    have hpN : l ≠ [] := List.length_pos_iff.1 hpos
    simp only [Nat.add_zero] at c0
    obtain ⟨x, hx⟩ : ∃ x, l[0] = x := ⟨_, rfl⟩
    rw [hx] at c0 HO
    clear hx h1 hI
    go_wp2_with fail
    go_ret2
    rw [HL.out, HO.out]
    exact ⟨rfl, hG1⟩
  · have HO := Lib.hid (numOf_no h1)
    have h1' : ((l.length : Int) != 1) = true := by simp; omega
    clear h1 hI
    go_wp2_with fail
    go_ret2
    rw [HL.out, HO.out]
    exact ⟨rfl, hG1⟩
end Go.Proofs.Ytadlnjglpigjmaa

/- UnrollLoop of the reference; plain laws over unrOf. -/
import Derived.Test.YtdnhinkjmjpnnaaGX

namespace Go.Proofs.Ytdnhinkjmjpnnaa

open Go.RowKit

theorem unr_count {l : List St} {j : Nat} (hj : j < l.length) : St.count (l.set j (unrSt l[j])) ≤ 3 * St.count l := by
  have h1 := countL_set (unrSt l[j]) l j hj
  have h2 := count_get hj
  obtain ⟨s, hs⟩ : ∃ s, l[j] = s := ⟨_, rfl⟩
  rw [hs] at h1 h2 ⊢
  have h3 : (unrSt s).inner = St.count s.thn + (1 + s.inner) := by
    simp only [unrSt, St.inner, count_appL, St.count]; omega
  have h4 : St.count s.thn ≤ s.inner := by
    obtain ⟨op, x, y, n, t, e⟩ := s
    simp only [St.thn, St.inner]; omega
  omega
theorem unrOf_small (p : Pr) (k : Int) : (unrOf p k).1.types.length ≤ p.types.length ∧ St.count (unrOf p k).1.body ≤ 3 * St.count p.body := by
  cases h : (validP p && (decide (0 ≤ k) && decide (k < p.body.length))) with
  | false => rw [unrOf_out h]; simp [St.count]
  | true =>
    simp only [Bool.and_eq_true, decide_eq_true_eq] at h
    obtain ⟨hv, h0, h1⟩ := h
    obtain ⟨j, rfl⟩ := Int.eq_ofNat_of_zero_le h0
    have hj : j < p.body.length := by omega
    rw [unrOf_in hv hj]
    split
    · exact ⟨Nat.le_refl _, unr_count hj⟩
    · simp [St.count]
/-- Where a loop was unrolled: how many statements and choices there are. -/
theorem unrOf_law {p : Pr} {k : Int} (h : (unrOf p k).2 = true) : ∃ (j : Nat) (hj : j < p.body.length), k = j ∧ cntOf (unrOf p k).1 = cntOf p + cntOf ⟨p.types, [p.body[j]]⟩ ∧ chs (ptsOf (unrOf p k).1) = chs (ptsOf p) + chs (ptsOf ⟨p.types, [p.body[j]]⟩) := by
  cases hp : (validP p && (decide (0 ≤ k) && decide (k < p.body.length))) with
  | false => rw [unrOf_out hp] at h; cases h
  | true =>
    simp only [Bool.and_eq_true, decide_eq_true_eq] at hp
    obtain ⟨hv, h0, h1⟩ := hp
    obtain ⟨j, rfl⟩ := Int.eq_ofNat_of_zero_le h0
    have hj : j < p.body.length := by omega
    refine ⟨j, hj, rfl, ?_⟩
    rw [unrOf_in hv hj] at h ⊢
    by_cases hc : (p.body[j].op == 10 && validP (unrPr p j p.body[j])) = true
    · rw [if_pos hc]
      simp only [Bool.and_eq_true, beq_iff_eq] at hc
      exact unr_valid hv hj hc.1 hc.2
    · rw [if_neg hc] at h; cases h
theorem unrS_ret {R : Ending → World → Prop} {tmps : Array Value} {u : World} {b : Nat} {x0 x1 : Value} (hz : Zp u b x0 x1) {v0 v1 v3 : Value} (ht : tmps.getD 4 undef = .pointer (some ⟨b, 0, none⟩)) (h3 : tmps.getD 5 undef = v3) (h : R (.returned (.tuple #[.agg #[v0, v1], v3])) (put2 u b v0 v1)) :
    bodyPost Try.prog Try.f63 R .ret { tmps := tmps, defers := [] } (put2 u b v0 v1) := by
  obtain ⟨c0, c1⟩ := hz.put2 v0 v1
  generalize put2 u b v0 v1 = W at *
  have ht' : tmps[4]?.getD undef = .pointer (some ⟨b, 0, none⟩) := by simpa using ht
  have h3' : tmps[5]?.getD undef = v3 := by simpa using h3
  refine bodyPost_ret (v := .tuple #[.agg #[v0, v1], v3]) ?_ rfl h
  simp [results, Try.results63, go_sem, ht', h3', c0, c1]
/-- One statement, copied. -/
theorem copy_one (s : St) (b o c : Nat) (w : World) (hc : St.count [s] ≤ 10000) (h : SlAt w Any [s] (some ⟨b, o, none⟩)) :
    Calls Try.prog 125 #[.slice (some ⟨b, o, none⟩) 1 c] w fun e w' => ∃ (g cap : Nat) (r : List Value), e = .returned (.slice (some ⟨g, 0, none⟩) 1 cap) ∧ StRow w' (New w.heap.size) s r ∧ (∀ j u, r[j]? = some u → w'.cell? ((⟨g, 0, none⟩ : Addr).add j) = some u) ∧ Gr w w' none := by
  refine (copy_all (St.count [s]) hc [s] (some ⟨b, o, none⟩) c w (Nat.le_refl _) h).mono ?_
  rintro e w' ⟨ao, cap, rfl, hS, hg⟩
  obtain ⟨g, rfl⟩ := hS.addr (by simp)
  obtain ⟨r, hr, hrc⟩ := hS.cell (i := 0) (by simp)
  refine ⟨g, cap, r, rfl, hr.sub fun b o hb => hb.1, fun j u hu => ?_, hg⟩
  have hadd : (⟨g, 0, none⟩ : Addr).add j = ⟨g, j, none⟩ := by unfold Addr.add; split <;> simp_all
  rw [hadd]
  have := hrc j u hu
  simpa using this
set_option maxRecDepth 100000 in
set_option maxHeartbeats 8000000 in
theorem specUnrollLoop_any (p : Pr) (k : Int) (at' ab : Option Addr) (ct cb : Nat) (w : World) (hT : InAt w Any p.types at') (hB : SlAt w Any p.body ab) (hs : p.types.length ≤ 100000) (hc : St.count p.body ≤ 10000) (hcb : p.body.length ≤ cb) :
    Calls Try.prog 63 #[.agg #[.slice at' p.types.length ct, .slice ab p.body.length cb], .int .i64 k] w (ProgOk (unrOf p k).1 (unrOf p k).2 w) := by
  have hlb := count_length p.body
  have HCB := Lib.hid hcb
  clear hcb
  go_enter Try.func63, Try.ntmps63
  go_wp2_with fail
  obtain ⟨wA, hwA⟩ : ∃ wA : World, wA = (w.alloc (.cells #[.slice at' p.types.length ct, .slice ab p.body.length cb] 30)).alloc (.cells #[.slice none 0 0, .slice none 0 0] 30) := ⟨_, rfl⟩
  have hgA : Gr w wA none := by rw [hwA]; exact ((Gr.refl _ _).alloc _).alloc _
  have q0 : wA.cell? ⟨w.heap.size, 0, none⟩ = some (.slice at' p.types.length ct) := by rw [hwA]; exact cell_of_row _ _ _ _ _ _ (heap2_0 _ _ _)
  have q1 : wA.cell? ⟨w.heap.size, 1, none⟩ = some (.slice ab p.body.length cb) := by rw [hwA]; exact cell_of_row _ _ _ _ _ _ (heap2_0 _ _ _)
  have hPA : Zp wA (w.heap.size + 1) (.slice none 0 0) (.slice none 0 0) := by
    rw [hwA]; exact ⟨cell_of_row _ _ _ _ _ _ (heap2_1 _ _ _), cell_of_row _ _ _ _ _ _ (heap2_1 _ _ _), frz_new (heap2_1 _ _ _)⟩
  have hszA : w.heap.size + 1 < wA.heap.size := hPA.lt
  rw [← hwA]
  clear hwA
  refine (validS_any p at' ab ct cb _ (hT.gr0 hgA) (hB.gr0 hgA) (by omega) (by omega) (by omega)).mono ?_
  rw [valid_same]
  rintro e w1 ⟨rfl, hg⟩
  replace q0 := hg.cell q0 (by simp)
  replace q1 := hg.cell q1 (by simp)
  have hsz1 := hg.size
  have HP := Lib.hid (hPA.gr hg (by simp))
  have HG := Lib.hid (hgA.trans0 hg)
  clear hgA hPA hg
  cases hv : validP p with
  | false =>
    have HO := Lib.hid (unrOf_out (p := p) (k := k) (by rw [hv]; rfl))
    clear hv
    obtain ⟨z0, z1, zf⟩ := HP.out
    go_wp2_with fail
    (try simp only [Exit.inBlock, Exit.then])
    refine unrS_ret (b := w.heap.size + 1) HP.out rfl rfl ?_
    rw [HO.out]
    exact ProgOk.no HG.out (by omega)
  | true =>
    by_cases hk0 : k < 0
    · have hd0 : decide (k < 0) = true := decide_eq_true hk0
      have HO := Lib.hid (unrOf_out (p := p) (k := k) (by rw [decide_eq_false (show ¬ 0 ≤ k by omega)]; simp))
      clear hv hk0
      obtain ⟨z0, z1, zf⟩ := HP.out
      go_wp2_with fail
      (try simp only [Exit.inBlock, Exit.then])
      refine unrS_ret (b := w.heap.size + 1) HP.out rfl rfl ?_
      rw [HO.out]
      exact ProgOk.no HG.out (by omega)
    · have hd0 : decide (k < 0) = false := decide_eq_false hk0
      by_cases hk1 : (p.body.length : Int) ≤ k
      · have hd1 : decide ((p.body.length : Int) ≤ k) = true := decide_eq_true hk1
        have HO := Lib.hid (unrOf_out (p := p) (k := k) (by rw [decide_eq_false (show ¬ k < (p.body.length : Int) by omega)]; simp))
        clear hv hk0 hk1
        obtain ⟨z0, z1, zf⟩ := HP.out
        go_wp2_with fail
        (try simp only [Exit.inBlock, Exit.then])
        refine unrS_ret (b := w.heap.size + 1) HP.out rfl rfl ?_
        rw [HO.out]
        exact ProgOk.no HG.out (by omega)
      · have hd1 : decide ((p.body.length : Int) ≤ k) = false := decide_eq_false hk1
        obtain ⟨j, rfl⟩ := Int.eq_ofNat_of_zero_le (show 0 ≤ k by omega)
        have hj : j < p.body.length := by omega
        have HO := Lib.hid (unrOf_in hv hj)
        clear hv hk0 hk1
        obtain ⟨bb, oo, rfl, hst⟩ := (hB.gr0 HG.out).at hj
        have HST := Lib.hid hst
        obtain ⟨_, -, -, at1, ct1, ae1, ce1, c0, -, -, -, c4, -, r4, -⟩ := hst.out
        obtain ⟨sa, hsa⟩ : ∃ s, p.body[j] = s := ⟨_, rfl⟩
        have hcg := count_get hj
        have hq3 := unr_count hj
        rw [hsa] at c0 c4 r4 hcg HO HST hq3
        obtain ⟨o1, x1, y1, n1, t1, e1⟩ := sa
        simp only [St.op, St.thn] at c0 c4 r4
        have HT4 := Lib.hid r4
        have HCT := Lib.hid (show St.count t1 ≤ 10000 ∧ St.count [St.mk o1 x1 y1 n1 t1 e1] ≤ 10000 ∧ t1.length ≤ 100000 by have := count_length t1; simp only [St.count, St.inner] at hcg ⊢; omega)
        have hji : (0 : Int) ≤ (j : Int) ∧ (j : Int) < (p.body.length : Int) := by omega
        have HQ3 := Lib.hid (show St.count (p.body.set j (unrSt (.mk o1 x1 y1 n1 t1 e1))) ≤ 30000 by omega)
        clear hst hsa hcg r4 hq3
        by_cases ho : o1 = 10
        · subst ho
          have eo : ((10 : Int) == 10) = true := rfl
          go_wp2_with fail
          refine (copyOf_any p at' (some ⟨bb, oo, none⟩) ct cb _ (hT.gr0 HG.out) (hB.gr0 HG.out) hs hc).mono ?_
          rintro e w3 ⟨a9, b9, c9, d9, rfl, hL, hg3, mid, hmid, hS, hob⟩
          have hlo := hL.own
          have hI := hL.at.any
          have hzx := HP.out.lt
          have hmid2 : w.heap.size + 1 < mid := by omega
          have hob2 : ∀ g', ob a9 = some g' → w.heap.size + 1 < g' ∧ g' < mid := fun g' h => ⟨by have := (hlo g' h).1; omega, hob g' h⟩
          obtain ⟨g, rfl⟩ := hS.addr (by omega)
          have hgl := hS.own g rfl
          have hgA : Gr w3 (w3.alloc (.cells #[.slice a9 p.types.length c9, .slice (some ⟨g, 0, none⟩) p.body.length d9] 30)) none := (Gr.refl _ _).alloc _
          have hPZ := Zp.new w3 (.slice a9 p.types.length c9) (.slice (some ⟨g, 0, none⟩) p.body.length d9) 30
          have hsz3 := hg3.size
          have hszx := HG.out.size
          have hgB := hg3.trans0 hgA
          have HP3 := Lib.hid (HP.out.gr hgB (by simp))
          have HG3 := Lib.hid (HG.out.trans0 hgB)
          have HS3 := Lib.hid (hS.gr0 hgA)
          have HI3 := Lib.hid (hI.gr0 hgA)
          have HTH := Lib.hid (HT4.out.gr0 hgB)
          have HONE := Lib.hid (show SlAt _ Any [St.mk 10 x1 y1 n1 t1 e1] (some ⟨bb, oo + j * 6, none⟩) from (SlAt.of fun i hi => by obtain rfl : i = 0 := (by simp at hi; omega); simpa using HST.out).gr0 hgB)
          replace q1 := hgB.cell q1 (by simp)
          replace c4 := hgB.cell c4 (by simp)
          clear c0 q0 hI hS hg3 hlo hgB hL
          go_upto_region 4 with fail
          obtain ⟨wB, hwB⟩ : ∃ wB, wB = w3.alloc (.cells #[.slice a9 p.types.length c9, .slice (some ⟨g, 0, none⟩) p.body.length d9] 30) := ⟨_, rfl⟩
          have hszB : wB.heap.size = w3.heap.size + 1 := by rw [hwB]; simp
          rw [← hwB] at hgA hPZ HP3 HG3 HS3 HI3 HTH HONE q1 c4 ⊢
          clear hwB hgA
          have HPZ := Lib.hid hPZ
          have hw1 : IntKind.i64.wrap ((j : Int) + 1) = (j : Int) + 1 := IntWalk.i64_in _ (by omega)
          have hcb1 : (j : Int) + 1 ≤ (cb : Int) := by have := HCB.out; omega
          have hcbj : ¬ cb = j := by have := HCB.out; omega
          have hjj : (0 : Int) ≤ (j : Int) + 1 ∧ (j : Int) ≤ (j : Int) + 1 := by omega
          clear hPZ
          refine wp_region_held_drew (S := fun W => Gr wB W none) (by kernel_rfl) ((Gr.refl _ _).drew) (fun hHeld => ?_)
          refine wpAnyH_take (i := 0) (v := ?_) rfl (by kernel_rfl) (by kernel_rfl) (by kernel_rfl) (fun _ _ _ h => h) (Or.inl ⟨by rfl, ?_⟩) hHeld ?_
          rotate_left
          focus (intro wq hq; clear hq; go_simp; try with_reducible rfl)
          simp only [Act.put, List.getElem_toArray, List.getElem_cons_zero, List.setIfInBounds_toArray, List.set_cons_zero, List.set_cons_succ]
          refine wpAnyH_take (i := 1) (v := ?_) rfl (by kernel_rfl) (by kernel_rfl) (by kernel_rfl) (fun _ _ _ h => h) (Or.inl ⟨by rfl, ?_⟩) hHeld ?_
          rotate_left
          focus (intro wq hq; have k0 := hq.cell q1 (by simp); go_simp; try with_reducible rfl)
          simp only [Act.put, List.getElem_toArray, List.getElem_cons_succ, List.getElem_cons_zero, List.setIfInBounds_toArray, List.set_cons_zero, List.set_cons_succ]
          refine wpAnyH_take (i := 2) (v := ?_) rfl (by kernel_rfl) (by kernel_rfl) (by kernel_rfl) (fun _ _ _ h => h) (Or.inl ⟨by rfl, ?_⟩) hHeld ?_
          rotate_left
          focus (intro wq hq; clear hq; go_simp; try with_reducible rfl)
          simp only [Act.put, List.getElem_toArray, List.getElem_cons_succ, List.getElem_cons_zero, List.setIfInBounds_toArray, List.set_cons_zero, List.set_cons_succ]
          refine wpAnyH_take (i := 3) (v := ?_) rfl (by kernel_rfl) (by kernel_rfl) (by kernel_rfl) (fun _ _ _ h => h) (Or.inl ⟨by rfl, ?_⟩) hHeld ?_
          rotate_left
          focus (intro wq hq; clear hq; go_simp; try with_reducible rfl)
          simp only [Act.put, List.getElem_toArray, List.getElem_cons_succ, List.getElem_cons_zero, List.setIfInBounds_toArray, List.set_cons_zero, List.set_cons_succ]
          refine wpAnyH_take (i := 4) (v := ?_) rfl (by kernel_rfl) (by kernel_rfl) (by kernel_rfl) (fun _ _ _ h => h) (Or.inl ⟨by rfl, ?_⟩) hHeld ?_
          rotate_left
          focus (intro wq hq; clear hq; go_simp; try with_reducible rfl)
          simp only [Act.put, List.getElem_toArray, List.getElem_cons_succ, List.getElem_cons_zero, List.setIfInBounds_toArray, List.set_cons_zero, List.set_cons_succ]
          refine wpAnyH_take (i := 5) (v := ?_) rfl (by kernel_rfl) (by kernel_rfl) (by kernel_rfl) (fun _ _ _ h => h) (Or.inl ⟨by rfl, ?_⟩) hHeld ?_
          rotate_left
          focus (intro wq hq; have k0 := hq.cell c4 (by simp); go_simp; try with_reducible rfl)
          simp only [Act.put, List.getElem_toArray, List.getElem_cons_succ, List.getElem_cons_zero, List.setIfInBounds_toArray, List.set_cons_zero, List.set_cons_succ]
          refine wpAnyH_take (i := 7) (v := ?_) rfl (by kernel_rfl) (by kernel_rfl) (by kernel_rfl) (fun _ _ _ h => h) (Or.inl ⟨by rfl, ?_⟩) hHeld ?_
          rotate_left
          focus (intro wq hq; clear hq; go_simp; try with_reducible rfl)
          simp only [Act.put, List.getElem_toArray, List.getElem_cons_succ, List.getElem_cons_zero, List.setIfInBounds_toArray, List.set_cons_zero, List.set_cons_succ]
          refine wpAnyH_take (i := 8) (v := ?_) rfl (by kernel_rfl) (by kernel_rfl) (by kernel_rfl) (fun _ _ _ h => h) (Or.inl ⟨by rfl, ?_⟩) hHeld ?_
          rotate_left
          focus (intro wq hq; have k0 := hq.cell q1 (by simp); go_simp; try with_reducible rfl)
          simp only [Act.put, List.getElem_toArray, List.getElem_cons_succ, List.getElem_cons_zero, List.setIfInBounds_toArray, List.set_cons_zero, List.set_cons_succ]
          refine wpAnyH_take (i := 9) (v := ?_) rfl (by kernel_rfl) (by kernel_rfl) (by kernel_rfl) (fun _ _ _ h => h) (Or.inl ⟨by rfl, ?_⟩) hHeld ?_
          rotate_left
          focus (intro wq hq; clear hq; go_simp; try with_reducible rfl)
          simp only [Act.put, List.getElem_toArray, List.getElem_cons_succ, List.getElem_cons_zero, List.setIfInBounds_toArray, List.set_cons_zero, List.set_cons_succ]
          refine wpAnyH_take (i := 10) (v := ?_) rfl (by kernel_rfl) (by kernel_rfl) (by kernel_rfl) (fun _ _ _ h => h) (Or.inl ⟨by rfl, ?_⟩) hHeld ?_
          rotate_left
          focus (intro wq hq; clear hq; go_simp; try with_reducible rfl)
          simp only [Act.put, List.getElem_toArray, List.getElem_cons_succ, List.getElem_cons_zero, List.setIfInBounds_toArray, List.set_cons_zero, List.set_cons_succ]
          refine wpAnyH_take (i := 11) (v := ?_) rfl (by kernel_rfl) (by kernel_rfl) (by kernel_rfl) (fun _ _ _ h => h) (Or.inl ⟨by rfl, ?_⟩) hHeld ?_
          rotate_left
          focus (intro wq hq; clear hq; go_simp; try with_reducible rfl)
          simp only [Act.put, List.getElem_toArray, List.getElem_cons_succ, List.getElem_cons_zero, List.setIfInBounds_toArray, List.set_cons_zero, List.set_cons_succ]
          refine wpAnyH_take (i := 12) (v := ?_) rfl (by kernel_rfl) (by kernel_rfl) (by kernel_rfl) (fun _ _ _ h => h) (Or.inl ⟨by rfl, ?_⟩) hHeld ?_
          rotate_left
          focus (intro wq hq; clear hq; go_simp; try with_reducible rfl)
          simp only [Act.put, List.getElem_toArray, List.getElem_cons_succ, List.getElem_cons_zero, List.setIfInBounds_toArray, List.set_cons_zero, List.set_cons_succ]
          refine wpAnyH_ready (rs := [6]) (by kernel_rfl) (by simp) ?_
          refine AllReadyH.cons rfl (fun K hK => ?_) AllReadyH.nil
          go_simp
          refine (copy_all (St.count t1) HCT.out.1 t1 at1 ct1 _ (Nat.le_refl _) (HTH.out.gr0 (Gr.refl wB none).drew)).mono ?_
          rintro e w4 ⟨a4, c4', rfl, hS4, hg4⟩
          have HG4 := Lib.hid (Gr.trans0 (Gr.refl wB none).drew hg4)
          have HS4 := Lib.hid (hS4.base (base' := wB.heap.size) (by simp))
          clear hS4 hg4
          try dsimp only
          refine hK.out _ _ (HG4.out) (fun hHeld => ?_)
          clear hK K
          try simp only [Act.put, List.getElem_toArray, List.getElem_cons_succ, List.getElem_cons_zero, List.setIfInBounds_toArray, List.set_cons_zero, List.set_cons_succ]
          refine wpAnyH_ready (rs := [13]) (by kernel_rfl) (by simp) ?_
          refine AllReadyH.cons rfl (fun K hK => ?_) AllReadyH.nil
          go_simp
          refine (copy_one (.mk 10 x1 y1 n1 t1 e1) bb (oo + j * 6) _ _ HCT.out.2.1 (HONE.out.gr0 HG4.out)).mono ?_
          rintro e w5 ⟨g5, c5, r5, rfl, hr5, hrc5, hg5⟩
          have HG5 := Lib.hid (HG4.out.trans0 hg5)
          have HS5 := Lib.hid (HS4.out.gr0 hg5)
          have HB5 := Lib.hid (show ∀ b, ob a4 = some b → wB.heap.size ≤ b ∧ b < w4.heap.size from fun b e => HS4.out.own b e)
          have HN6 := Lib.hid (show wB.heap.size ≤ w4.heap.size from HG4.out.size)
          clear hg5
          try dsimp only
          refine hK.out _ _ (HG5.out) (fun hHeld => ?_)
          clear hK K
          try simp only [Act.put, List.getElem_toArray, List.getElem_cons_succ, List.getElem_cons_zero, List.setIfInBounds_toArray, List.set_cons_zero, List.set_cons_succ]
          refine wpAnyH_ready (rs := [14]) (by kernel_rfl) (by simp) ?_
          refine AllReadyH.cons rfl (fun K hK => ?_) AllReadyH.nil
          obtain ⟨g6, c6, w6, hrun, hL6, hb6, hg6⟩ := app_one w5 28 HS5.out HG5.out.size hr5 (fun b o hd e => by have := (HB5.out b e).2; unfold New at hd; omega) ⟨g5, 0, none⟩ c5 hrc5 HCT.out.2.2
          refine step_run rfl (.tmp 40) (.tmp 47) 28 rfl _ _ rfl rfl _ _ hrun ?_
          have HG6 := Lib.hid (Gr.trans HG5.out hg6 (fun r e => .inr (HB5.out r e).1))
          have HL6 := Lib.hid hL6
          clear hrun hL6 hb6 hg6 hr5 hrc5
          try dsimp only
          refine hK.out _ _ (HG6.out) (fun hHeld => ?_)
          clear hK K
          try simp only [Act.put, List.getElem_toArray, List.getElem_cons_succ, List.getElem_cons_zero, List.setIfInBounds_toArray, List.set_cons_zero, List.set_cons_succ]
          refine wpAnyH_take (i := 15) (v := ?_) rfl (by kernel_rfl) (by kernel_rfl) (by kernel_rfl) (fun _ _ _ h => h) (Or.inl ⟨by rfl, ?_⟩) hHeld ?_
          rotate_left
          focus (intro wq hq; clear hq; go_simp; try with_reducible rfl)
          simp only [Act.put, List.getElem_toArray, List.getElem_cons_succ, List.getElem_cons_zero, List.setIfInBounds_toArray, List.set_cons_zero, List.set_cons_succ]
          refine wpAnyH_done (by kernel_rfl) ?_ _
          clear hHeld
          have HU := Lib.hid (show Sts (putSix w6 g (j * 6) (.int .i64 9) (.int .i64 0) (.int .i64 0) (.int .i64 0) (.slice (some ⟨g6, 0, none⟩) (t1.length + 1) c6) (.slice none 0 0)) mid (some ⟨g, 0, none⟩) d9 (p.body.set j (unrSt (.mk 10 x1 y1 n1 t1 e1))) from unr_put (s := .mk 10 x1 y1 n1 t1 e1) (n := wB.heap.size) (m := 0) (c5 := c6) (HS3.out.gr0 HG6.out) hj (HL6.out.sub fun b o hd => .inl (hd.elim id fun h => Nat.le_trans HN6.out h)) (by omega) (by omega) HCT.out.2.2)
          have HS6 := Lib.hid (HS3.out.gr0 HG6.out)
          have HI6 := Lib.hid (HI3.out.gr0 HG6.out)
          have HP6 := Lib.hid (HP3.out.gr HG6.out (by simp))
          have HGG := Lib.hid (HG3.out.trans0 HG6.out)
          have HPZ6 := Lib.hid (HPZ.out.gr HG6.out (by simp))
          obtain ⟨p0, p1, -⟩ := HPZ6.out
          obtain ⟨r, hr, hrc⟩ := HS6.out.cell hj
          obtain ⟨-, -, at8, ct8, ae8, ce8, rfl, -, -⟩ := hr
          have s0 := hrc 0 _ rfl
          rw [Nat.add_zero] at s0
          have s1 := hrc 1 _ rfl
          have s2 := hrc 2 _ rfl
          have s3 := hrc 3 _ rfl
          have s4 := hrc 4 _ rfl
          have s5 := hrc 5 _ rfl
          have sf : ∀ o, w6.frozen? ⟨g, o, none⟩ = false := fun o => HS6.out.frz _ rfl
          clear hrc q1 c4
          go_upto_region 6 with fail
          have h6 := putSix_own w6 g (j * 6) (.int .i64 9) (.int .i64 0) (.int .i64 0) (.int .i64 0) (.slice (some ⟨g6, 0, none⟩) (t1.length + 1) c6) (.slice none 0 0)
          obtain ⟨w7, hw7⟩ : ∃ w7, w7 = putSix w6 g (j * 6) (.int .i64 9) (.int .i64 0) (.int .i64 0) (.int .i64 0) (.slice (some ⟨g6, 0, none⟩) (t1.length + 1) c6) (.slice none 0 0) := ⟨_, rfl⟩
          have e6 := hw7.symm
          rw [← hw7] at h6 HU
          unfold putSix at e6
          rw [e6]
          have k0 := h6.cell p0 (by simp; omega)
          have k1 := h6.cell p1 (by simp; omega)
          have hHP7 := HP6.out.gr h6 (by simp; omega)
          have hGX7 := HGG.out.trans h6 (fun r e => .inr (by cases e; omega))
          have hIX7 := (InAt.gr h6 (fun b _ hd e => by have := (hob b hd); have := Option.some.inj e; omega) HI6.out.block).any
          have hlq : (unrPr p j (.mk 10 x1 y1 n1 t1 e1)).body.length = p.body.length := List.length_set
          obtain ⟨q, hq⟩ : ∃ q, unrPr p j (.mk 10 x1 y1 n1 t1 e1) = q := ⟨_, rfl⟩
          have hqt : q.types = p.types := by rw [← hq]; rfl
          have hqb : q.body = p.body.set j (unrSt (.mk 10 x1 y1 n1 t1 e1)) := by rw [← hq]; rfl
          rw [hq] at hlq HO
          rw [← hqb] at HU HQ3
          rw [← hqt] at hIX7 k0
          rw [← hlq] at k1
          have HIX := Lib.hid hIX7
          have HPX := Lib.hid hHP7
          have HGX := Lib.hid hGX7
          have HQL := Lib.hid (show q.types.length ≤ 100000 ∧ q.body.length ≤ 100000 by rw [hqt, hlq]; omega)
          clear e6 hw7 s0 s1 s2 s3 s4 s5 sf h6 p0 p1 hlq hq hqt hqb hIX7 hHP7 hGX7
          go_wp2_with fail
          refine (validS_any q a9 (some ⟨g, 0, none⟩) c9 d9 _ HIX.out HU.out.at.any (by have := HQL.out; omega) (by have := HQ3.out; omega) (by have := HQL.out; omega)).mono ?_
          rw [valid_same]
          rintro e w8 ⟨rfl, hg8⟩
          replace k0 := hg8.cell k0 (by simp)
          replace k1 := hg8.cell k1 (by simp)
          have HP8 := Lib.hid (HPX.out.gr hg8 (by simp))
          have HG8 := Lib.hid (HGX.out.trans0 hg8)
          have HS8 := Lib.hid (HU.out.gr0 hg8)
          have HI8 := Lib.hid (HIX.out.gr0 hg8)
          clear hg8
          cases hvq : validP q with
          | false =>
            have HO2 := Lib.hid (show unrOf p j = (⟨[], []⟩, false) by rw [HO.out, hvq]; rfl)
            clear hvq
            obtain ⟨z0, z1, zf⟩ := HP8.out
            go_wp2_with fail
            (try simp only [Exit.inBlock, Exit.then])
            refine unrS_ret (b := w.heap.size + 1) HP8.out rfl rfl ?_
            rw [HO2.out]
            exact ProgOk.no HG8.out (by omega)
          | true =>
            have HO2 := Lib.hid (show unrOf p j = (q, true) by rw [HO.out, hvq]; rfl)
            have HE := Lib.hid (unr_end (c9 := c9) HG8.out HI8.out HS8.out (by omega) hob2)
            clear hvq
            obtain ⟨z0, z1, zf⟩ := HP8.out
            go_wp2_with fail
            (try simp only [Exit.inBlock, Exit.then])
            refine unrS_ret (b := w.heap.size + 1) HP8.out rfl rfl ?_
            rw [HO2.out]
            exact HE.out
        · have eo : (o1 == 10) = false := beq_eq_false_iff_ne.2 ho
          have HO2 := Lib.hid (show unrOf p j = (⟨[], []⟩, false) by rw [HO.out, if_neg (by simp [St.op]; omega)])
          obtain ⟨z0, z1, zf⟩ := HP.out
          go_wp2_with fail
          (try simp only [Exit.inBlock, Exit.then])
          refine unrS_ret (b := w.heap.size + 1) HP.out rfl rfl ?_
          rw [HO2.out]
          exact ProgOk.no HG.out (by omega)
end Go.Proofs.Ytdnhinkjmjpnnaa

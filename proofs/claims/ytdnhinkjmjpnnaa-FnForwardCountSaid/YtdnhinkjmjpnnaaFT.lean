/- ForwardLoad of the reference. -/
import Derived.Test.YtdnhinkjmjpnnaaFS

namespace Go.Proofs.Ytdnhinkjmjpnnaa

open Go.RowKit

theorem fwdS_ret {R : Ending → World → Prop} {tmps : Array Value} {u : World} {b : Nat} {x0 x1 : Value} (hz : Zp u b x0 x1) {v0 v1 v3 : Value} (ht : tmps.getD 4 undef = .pointer (some ⟨b, 0, none⟩)) (h3 : tmps.getD 5 undef = v3) (h : R (.returned (.tuple #[.agg #[v0, v1], v3])) (put2 u b v0 v1)) :
    bodyPost Try.prog Try.f57 R .ret { tmps := tmps, defers := [] } (put2 u b v0 v1) := by
  obtain ⟨c0, c1⟩ := hz.put2 v0 v1
  generalize put2 u b v0 v1 = W at *
  have ht' : tmps[4]?.getD undef = .pointer (some ⟨b, 0, none⟩) := by simpa using ht
  have h3' : tmps[5]?.getD undef = v3 := by simpa using h3
  refine bodyPost_ret (v := .tuple #[.agg #[v0, v1], v3]) ?_ rfl h
  simp [results, Try.results57, go_sem, ht', h3', c0, c1]
set_option maxRecDepth 100000 in
set_option maxHeartbeats 4000000 in
theorem specForwardLoad_any (p : Pr) (k : Int) (at' ab : Option Addr) (ct cb : Nat) (w : World) (hT : InAt w Any p.types at') (hB : SlAt w Any p.body ab) (hs : p.types.length ≤ 100000) (hc : St.count p.body ≤ 10000) :
    Calls Try.prog 57 #[.agg #[.slice at' p.types.length ct, .slice ab p.body.length cb], .int .i64 k] w (ProgOk (fwdOf p k).1 (fwdOf p k).2 w) := by
  have hlb := count_length p.body
  go_enter Try.func57, Try.ntmps57
  go_wp2_with fail
  obtain ⟨wA, hwA⟩ : ∃ wA : World, wA = (w.alloc (.cells #[.slice at' p.types.length ct, .slice ab p.body.length cb] 30)).alloc (.cells #[.slice none 0 0, .slice none 0 0] 30) := ⟨_, rfl⟩
  have hgA : Gr w wA none := by rw [hwA]; exact ((Gr.refl _ _).alloc _).alloc _
  have q0 : wA.cell? ⟨w.heap.size, 0, none⟩ = some (.slice at' p.types.length ct) := by rw [hwA]; exact cell_of_row _ _ _ _ _ _ (heap2_0 _ _ _)
  have q1 : wA.cell? ⟨w.heap.size, 1, none⟩ = some (.slice ab p.body.length cb) := by rw [hwA]; exact cell_of_row _ _ _ _ _ _ (heap2_0 _ _ _)
  have hPA : Zp wA (w.heap.size + 1) (.slice none 0 0) (.slice none 0 0) := by
    rw [hwA]; exact ⟨cell_of_row _ _ _ _ _ _ (heap2_1 _ _ _), cell_of_row _ _ _ _ _ _ (heap2_1 _ _ _), frz_new (heap2_1 _ _ _)⟩
  have hszA : w.heap.size + 1 < wA.heap.size := hPA.lt
  rw [← hwA]
  clear hwA
  refine (validS_any p at' ab ct cb _ (hT.gr0 hgA) (hB.gr0 hgA) (by omega) (by omega) (by omega)).mono ?_
  rw [valid_same]
  rintro e w1 ⟨rfl, hg⟩
  replace q0 := hg.cell q0 (by simp)
  replace q1 := hg.cell q1 (by simp)
  have hsz1 := hg.size
  have HP := Lib.hid (hPA.gr hg (by simp))
  have HG := Lib.hid (hgA.trans0 hg)
  clear hgA hPA hg
  have hwl : IntKind.i64.wrap ((p.body.length : Int) - 1) = (p.body.length : Int) - 1 := IntWalk.i64_in _ (by omega)
  cases hv : validP p with
  | false =>
    have HO := Lib.hid (fwdOf_out (p := p) (k := k) (by unfold hasPairP; rw [hv]; rfl))
    clear hv
    obtain ⟨z0, z1, zf⟩ := HP.out
    go_wp2_with fail
    (try simp only [Exit.inBlock, Exit.then])
    refine fwdS_ret (b := w.heap.size + 1) HP.out rfl rfl ?_
    rw [HO.out]
    exact ProgOk.no HG.out (by omega)
  | true =>
    by_cases hk0 : k < 0
    · have hd0 : decide (k < 0) = true := decide_eq_true hk0
      have HO := Lib.hid (fwdOf_out (p := p) (k := k) (by unfold hasPairP; rw [decide_eq_false (show ¬ 0 ≤ k by omega)]; simp))
      clear hv hk0
      obtain ⟨z0, z1, zf⟩ := HP.out
      go_wp2_with fail
      (try simp only [Exit.inBlock, Exit.then])
      refine fwdS_ret (b := w.heap.size + 1) HP.out rfl rfl ?_
      rw [HO.out]
      exact ProgOk.no HG.out (by omega)
    · have hd0 : decide (k < 0) = false := decide_eq_false hk0
      by_cases hk1 : (p.body.length : Int) - 1 ≤ k
      · have hd1 : decide ((p.body.length : Int) - 1 ≤ k) = true := decide_eq_true hk1
        have HO := Lib.hid (fwdOf_out (p := p) (k := k) (by unfold hasPairP; rw [decide_eq_false (show ¬ k ≤ (p.body.length : Int) - 2 by omega)]; simp))
        clear hv hk0 hk1
        obtain ⟨z0, z1, zf⟩ := HP.out
        go_wp2_with fail
        (try simp only [Exit.inBlock, Exit.then])
        refine fwdS_ret (b := w.heap.size + 1) HP.out rfl rfl ?_
        rw [HO.out]
        exact ProgOk.no HG.out (by omega)
      · have hd1 : decide ((p.body.length : Int) - 1 ≤ k) = false := decide_eq_false hk1
        obtain ⟨j, rfl⟩ := Int.eq_ofNat_of_zero_le (show 0 ≤ k by omega)
        have hj : j + 1 < p.body.length := by omega
        have hp : hasPairP p j = true := by unfold hasPairP; rw [hv]; simp; omega
        have HO := Lib.hid (fwdOf_in hp hj)
        clear hp hv hk0 hk1
        obtain ⟨bb, oo, rfl, hst⟩ := (hB.gr0 HG.out).at (show j < p.body.length by omega)
        obtain ⟨b2, o2, e2, hst2⟩ := (hB.gr0 HG.out).at hj
        cases e2
        obtain ⟨sa, hsa⟩ : ∃ s, p.body[j] = s := ⟨_, rfl⟩
        obtain ⟨sb, hsb⟩ : ∃ s, p.body[j + 1] = s := ⟨_, rfl⟩
        rw [hsa] at hst HO
        rw [hsb] at hst2 HO
        obtain ⟨o1, x1, y1, n1, t1, e1⟩ := sa
        obtain ⟨o2, x2, y2, n2, t2, e2⟩ := sb
        obtain ⟨_, -, -, at1, ct1, ae1, ce1, c0, c1, c2, c3, c4, c5, -, -⟩ := hst.out
        obtain ⟨_, -, -, at2, ct2, ae2, ce2, d0, d1, d2, d3, d4, d5, -, -⟩ := hst2.out
        simp only [St.op, St.x, St.y, St.n, St.thn, St.els] at c0 c1 c2 c3 c4 c5 d0 d1 d2 d3 d4 d5
        have hw1 : IntKind.i64.wrap ((j : Int) + 1) = ((j + 1 : Nat) : Int) := by rw [IntWalk.i64_in _ (by omega)]; omega
        have hj1 : (0 : Int) ≤ (j : Int) + 1 ∧ (j : Int) + 1 < (p.body.length : Int) := by omega
        clear hst hst2 hsa hsb
        have g1 : Gr w1 (w1.alloc (.cells #[.int .i64 o1, .int .i64 x1, .int .i64 y1, .int .i64 n1, .slice at1 t1.length ct1, .slice ae1 e1.length ce1] 126)) none := (Gr.refl _ _).alloc _
        replace d0 := g1.cell d0 (by simp)
        replace d1 := g1.cell d1 (by simp)
        replace d2 := g1.cell d2 (by simp)
        replace d3 := g1.cell d3 (by simp)
        replace d4 := g1.cell d4 (by simp)
        replace d5 := g1.cell d5 (by simp)
        have q1' := g1.cell q1 (by simp)
        go_upto_region 5 with fail
        have hgx : Gr w1 ((w1.alloc (.cells #[.int .i64 o1, .int .i64 x1, .int .i64 y1, .int .i64 n1, .slice at1 t1.length ct1, .slice ae1 e1.length ce1] 126)).alloc (.cells #[.int .i64 o2, .int .i64 x2, .int .i64 y2, .int .i64 n2, .slice at2 t2.length ct2, .slice ae2 e2.length ce2] 126)) none := g1.alloc _
        have hz6 := (Z6.new w1 (.int .i64 o1) (.int .i64 x1) (.int .i64 y1) (.int .i64 n1) (.slice at1 t1.length ct1) (.slice ae1 e1.length ce1) 126).gr (show Gr _ ((w1.alloc (.cells #[.int .i64 o1, .int .i64 x1, .int .i64 y1, .int .i64 n1, .slice at1 t1.length ct1, .slice ae1 e1.length ce1] 126)).alloc (.cells #[.int .i64 o2, .int .i64 x2, .int .i64 y2, .int .i64 n2, .slice at2 t2.length ct2, .slice ae2 e2.length ce2] 126)) none from (Gr.refl _ _).alloc _) (by simp)
        have hz7 : Z6 ((w1.alloc (.cells #[.int .i64 o1, .int .i64 x1, .int .i64 y1, .int .i64 n1, .slice at1 t1.length ct1, .slice ae1 e1.length ce1] 126)).alloc (.cells #[.int .i64 o2, .int .i64 x2, .int .i64 y2, .int .i64 n2, .slice at2 t2.length ct2, .slice ae2 e2.length ce2] 126)) (w1.heap.size + 1) (.int .i64 o2) (.int .i64 x2) (.int .i64 y2) (.int .i64 n2) (.slice at2 t2.length ct2) (.slice ae2 e2.length ce2) := by simpa using Z6.new (w1.alloc (.cells #[.int .i64 o1, .int .i64 x1, .int .i64 y1, .int .i64 n1, .slice at1 t1.length ct1, .slice ae1 e1.length ce1] 126)) (.int .i64 o2) (.int .i64 x2) (.int .i64 y2) (.int .i64 n2) (.slice at2 t2.length ct2) (.slice ae2 e2.length ce2) 126
        obtain ⟨wx, hwx⟩ : ∃ wx, wx = ((w1.alloc (.cells #[.int .i64 o1, .int .i64 x1, .int .i64 y1, .int .i64 n1, .slice at1 t1.length ct1, .slice ae1 e1.length ce1] 126)).alloc (.cells #[.int .i64 o2, .int .i64 x2, .int .i64 y2, .int .i64 n2, .slice at2 t2.length ct2, .slice ae2 e2.length ce2] 126)) := ⟨_, rfl⟩
        rw [← hwx] at hgx hz6 hz7 ⊢
        clear hwx g1 q1'
        have HPX := Lib.hid (HP.out.gr hgx (by simp))
        have HGX := Lib.hid (HG.out.trans0 hgx)
        replace q0 := hgx.cell q0 (by simp)
        replace q1 := hgx.cell q1 (by simp)
        have HT := Lib.hid (hT.gr0 HGX.out)
        have HB := Lib.hid (hB.gr0 HGX.out)
        clear c0 c1 c2 c3 c4 c5 d0 d1 d2 d3 d4 d5 hgx hT hB
        obtain ⟨c0, c1, c2, -, -, -, -⟩ := hz6
        obtain ⟨d0, d1, d2, -, -, -, -⟩ := hz7
        by_cases h1 : o1 = 7
        · have e1 : (o1 == 7) = true := by simp [h1]
          by_cases h2 : o2 = 6
          · have e2 : (o2 == 6) = true := by simp [h2]
            by_cases h3 : x1 = y2
            · have e3 : (x1 == y2) = true := by simp [h3]
              by_cases h4 : y1 = x2
              · have e4 : (y1 == x2) = true := by simp [h4]
                have HO2 := Lib.hid (show fwdOf p j = (⟨[], []⟩, false) by rw [HO.out, if_neg (by simp [fwdAt, St.op, St.x, St.y]; omega)])
                obtain ⟨z0, z1, zf⟩ := HPX.out
                go_wp2_with fail
                (try simp only [Exit.inBlock, Exit.then])
                refine fwdS_ret (b := w.heap.size + 1) HPX.out rfl rfl ?_
                rw [HO2.out]
                exact ProgOk.no HGX.out (by omega)
              · have e4 : (y1 == x2) = false := beq_eq_false_iff_ne.2 h4
                have HO2 := Lib.hid (show fwdOf p j = (⟨p.types, p.body.set (j + 1) (.mk 3 x2 y1 0 [] [])⟩, true) by rw [HO.out, if_pos (by simp [fwdAt, St.op, St.x, St.y, h1, h2, h3]; omega)]; rfl)
                go_wp2_with fail
                refine (copyOf_any p at' (some ⟨bb, oo, none⟩) ct cb _ HT.out HB.out hs hc).mono ?_
                rintro e w2 ⟨a9, b9, c9, d9, rfl, hL, hg2, mid, hmid, hS, hob⟩
                have hlo := hL.own
                have hI := hL.at.any
                have hzx := HPX.out.lt
                have hmid2 : w.heap.size + 1 < mid := by omega
                have hob2 : ∀ g', ob a9 = some g' → w.heap.size + 1 < g' ∧ g' < mid := fun g' h => ⟨by have := (hlo g' h).1; omega, hob g' h⟩
                obtain ⟨g, rfl⟩ := hS.addr (by omega)
                have hgl := (hS.own g rfl)
                have hgA : Gr w2 (w2.alloc (.cells #[.slice a9 p.types.length c9, .slice (some ⟨g, 0, none⟩) p.body.length d9] 30)) none := (Gr.refl _ _).alloc _
                have hPZ := Zp.new w2 (.slice a9 p.types.length c9) (.slice (some ⟨g, 0, none⟩) p.body.length d9) 30
                have hsz2 := hg2.size
                have hszx := HGX.out.size
                have HP2 := Lib.hid (HPX.out.gr (hg2.trans0 hgA) (by simp))
                have HG3 := Lib.hid (HGX.out.trans0 (hg2.trans0 hgA))
                have HS3 := Lib.hid (hS.gr0 hgA)
                have HI3 := Lib.hid (hI.gr0 hgA)
                replace c2 := (hg2.trans0 hgA).cell c2 (by simp)
                replace d1 := (hg2.trans0 hgA).cell d1 (by simp)
                clear c0 c1 d0 d2 q0 q1 hI hS hg2
                go_upto_region 8 with fail
                obtain ⟨w3, hw3⟩ : ∃ w3, w3 = w2.alloc (.cells #[.slice a9 p.types.length c9, .slice (some ⟨g, 0, none⟩) p.body.length d9] 30) := ⟨_, rfl⟩
                rw [← hw3] at hgA hPZ HP2 HG3 HS3 HI3 c2 d1 ⊢
                clear hw3 hgA
                have HPZ := Lib.hid hPZ
                obtain ⟨p0, p1, -⟩ := hPZ
                obtain ⟨r, hr, hrc⟩ := HS3.out.cell hj
                obtain ⟨-, -, at8, ct8, ae8, ce8, rfl, -, -⟩ := hr
                have s0 := hrc 0 _ rfl
                rw [Nat.add_zero] at s0
                have s1 := hrc 1 _ rfl
                have s2 := hrc 2 _ rfl
                have s3 := hrc 3 _ rfl
                have s4 := hrc 4 _ rfl
                have s5 := hrc 5 _ rfl
                have sf : ∀ o, w3.frozen? ⟨g, o, none⟩ = false := fun o => HS3.out.frz _ rfl
                clear hrc
                go_upto_region 9 with fail
                have h6 := putSix_own w3 g ((j + 1) * 6) (.int .i64 3) (.int .i64 x2) (.int .i64 y1) (.int .i64 0) (.slice none 0 0) (.slice none 0 0)
                have HE := Lib.hid (fwd_end (x := x2) (y := y1) (c9 := c9) HG3.out HI3.out HS3.out hmid2 hob2 hj)
                obtain ⟨w4, hw4⟩ : ∃ w4, w4 = putSix w3 g ((j + 1) * 6) (.int .i64 3) (.int .i64 x2) (.int .i64 y1) (.int .i64 0) (.slice none 0 0) (.slice none 0 0) := ⟨_, rfl⟩
                have e6 := hw4.symm
                rw [← hw4] at h6 HE
                unfold putSix at e6
                rw [e6]
                replace p0 := h6.cell p0 (by simp; omega)
                replace p1 := h6.cell p1 (by simp; omega)
                have HP4 := Lib.hid (HP2.out.gr h6 (by simp; omega))
                clear e6 hw4 s0 s1 s2 s3 s4 s5 sf h6 c2 d1
                obtain ⟨z0, z1, zf⟩ := HP4.out
                go_wp2_with fail
                (try simp only [Exit.inBlock, Exit.then])
                refine fwdS_ret (b := w.heap.size + 1) HP4.out rfl rfl ?_
                rw [HO2.out]
                exact HE.out
            · have e3 : (x1 == y2) = false := beq_eq_false_iff_ne.2 h3
              have HO2 := Lib.hid (show fwdOf p j = (⟨[], []⟩, false) by rw [HO.out, if_neg (by simp [fwdAt, St.op, St.x, St.y]; omega)])
              obtain ⟨z0, z1, zf⟩ := HPX.out
              go_wp2_with fail
              (try simp only [Exit.inBlock, Exit.then])
              refine fwdS_ret (b := w.heap.size + 1) HPX.out rfl rfl ?_
              rw [HO2.out]
              exact ProgOk.no HGX.out (by omega)
          · have e2 : (o2 == 6) = false := beq_eq_false_iff_ne.2 h2
            have HO2 := Lib.hid (show fwdOf p j = (⟨[], []⟩, false) by rw [HO.out, if_neg (by simp [fwdAt, St.op, St.x, St.y]; omega)])
            obtain ⟨z0, z1, zf⟩ := HPX.out
            go_wp2_with fail
            (try simp only [Exit.inBlock, Exit.then])
            refine fwdS_ret (b := w.heap.size + 1) HPX.out rfl rfl ?_
            rw [HO2.out]
            exact ProgOk.no HGX.out (by omega)
        · have e1 : (o1 == 7) = false := beq_eq_false_iff_ne.2 h1
          have HO2 := Lib.hid (show fwdOf p j = (⟨[], []⟩, false) by rw [HO.out, if_neg (by simp [fwdAt, St.op, St.x, St.y]; omega)])
          obtain ⟨z0, z1, zf⟩ := HPX.out
          go_wp2_with fail
          (try simp only [Exit.inBlock, Exit.then])
          refine fwdS_ret (b := w.heap.size + 1) HPX.out rfl rfl ?_
          rw [HO2.out]
          exact ProgOk.no HGX.out (by omega)
end Go.Proofs.Ytdnhinkjmjpnnaa

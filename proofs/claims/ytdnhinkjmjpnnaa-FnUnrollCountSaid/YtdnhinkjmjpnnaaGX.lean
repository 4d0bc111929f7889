/- UnrollLoop of the program. -/
import Derived.Test.YtdnhinkjmjpnnaaGW

namespace Go.Proofs.Ytdnhinkjmjpnnaa

open Go.RowKit

/-- What UnrollLoop says. -/
def unrOf (p : Pr) (k : Int) : Pr × Bool :=
  if validP p && (decide (0 ≤ k) && decide (k < p.body.length)) then match p.body[k.toNat]? with
    | some s => if s.op == 10 && validP (unrPr p k.toNat s) then (unrPr p k.toNat s, true) else (⟨[], []⟩, false)
    | none => (⟨[], []⟩, false)
  else (⟨[], []⟩, false)
theorem unrOf_out {p : Pr} {k : Int} (h : (validP p && (decide (0 ≤ k) && decide (k < p.body.length))) = false) : unrOf p k = (⟨[], []⟩, false) := by unfold unrOf; rw [if_neg (by simp [h])]
theorem unrOf_in {p : Pr} {j : Nat} (hv : validP p = true) (hj : j < p.body.length) : unrOf p j = if (p.body[j].op == 10 && validP (unrPr p j p.body[j])) then (unrPr p j p.body[j], true) else (⟨[], []⟩, false) := by
  unfold unrOf
  rw [if_pos (by simp [hv, hj])]
  simp only [Int.toNat_natCast]
  rw [List.getElem?_eq_getElem hj]
set_option maxHeartbeats 1000000 in
theorem isStmt_any (p : Pr) (k : Int) (at' ab : Option Addr) (ct cb : Nat) (w : World) (hc : p.body.length ≤ 1048576) :
    Calls Try.prog 123 #[.agg #[.slice at' p.types.length ct, .slice ab p.body.length cb], .int .i64 k] w fun e w' => e = .returned (.bool (within k 0 ((p.body.length : Int) - 1))) ∧ Gr w w' none := by
  have hw : IntKind.i64.wrap ((p.body.length : Int) - 1) = (p.body.length : Int) - 1 := IntWalk.i64_in _ (by omega)
  have hg1 : ∀ o, Gr w (w.alloc o) none := fun o => (Gr.refl _ _).alloc _
  go_enter Try.func123, Try.ntmps123
  go_wp2_with fail
  refine (within_any k 0 ((p.body.length : Int) - 1) _).mono ?_
  rintro e w2 ⟨rfl, rfl⟩
  go_wp2_with fail
  go_ret
  exact ⟨rfl, hg1 _⟩
theorem unr_ret {R : Ending → World → Prop} {tmps : Array Value} {u : World} {b : Nat} {x0 x1 : Value} (hz : Zp u b x0 x1) {v0 v1 v3 : Value} (ht : tmps.getD 4 undef = .pointer (some ⟨b, 0, none⟩)) (h3 : tmps.getD 5 undef = v3) (h : R (.returned (.tuple #[.agg #[v0, v1], v3])) (put2 u b v0 v1)) :
    bodyPost Try.prog Try.f62 R .ret { tmps := tmps, defers := [] } (put2 u b v0 v1) := by
  obtain ⟨c0, c1⟩ := hz.put2 v0 v1
  generalize put2 u b v0 v1 = W at *
  have ht' : tmps[4]?.getD undef = .pointer (some ⟨b, 0, none⟩) := by simpa using ht
  have h3' : tmps[5]?.getD undef = v3 := by simpa using h3
  refine bodyPost_ret (v := .tuple #[.agg #[v0, v1], v3]) ?_ rfl h
  simp [results, Try.results62, go_sem, ht', h3', c0, c1]
theorem unr_end {w w4 : World} {q : Pr} {a9 : Option Addr} {c9 d9 g mid : Nat} (hG : Gr w w4 none) (hI : InAt w4 Any q.types a9) (hS : Sts w4 mid (some ⟨g, 0, none⟩) d9 q.body) (hmid : w.heap.size + 1 < mid) (hob : ∀ g', ob a9 = some g' → w.heap.size + 1 < g' ∧ g' < mid) :
    ProgOk q true w (.returned (.tuple #[.agg #[.slice a9 q.types.length c9, .slice (some ⟨g, 0, none⟩) q.body.length d9], .bool true])) (put2 w4 (w.heap.size + 1) (.slice a9 q.types.length c9) (.slice (some ⟨g, 0, none⟩) q.body.length d9)) := by
  have hp := put2_own w4 (w.heap.size + 1) (.slice a9 q.types.length c9) (.slice (some ⟨g, 0, none⟩) q.body.length d9)
  refine ⟨a9, some ⟨g, 0, none⟩, c9, d9, rfl, ?_, ?_, ?_⟩
  · exact (InAt.gr hp (fun b _ hd e => by have := (hob b hd).1; have := Option.some.inj e; omega) hI.block).any
  · exact (hS.gr hp (fun r e => by cases e; omega)).at.sub fun _ _ _ => trivial
  · exact put2_gr hG (by omega)
/-- The loop's place is taken by the loop, perhaps executed once ahead of it. -/
theorem unr_put {w5 : World} {mid g d9 j g5 c5 n m : Nat} {l : List St} {s : St} (hS : Sts w5 mid (some ⟨g, 0, none⟩) d9 l) (hj : j < l.length) (hL : SlAt w5 (fun b o => n ≤ b ∨ (Inn mid (some ⟨g, 0, none⟩) b o ∧ b < m)) (s.thn ++ [s]) (some ⟨g5, 0, none⟩)) (hg : g < n) (hm : mid ≤ n) (hl : s.thn.length ≤ 100000) :
    Sts (putSix w5 g (j * 6) (.int .i64 9) (.int .i64 0) (.int .i64 0) (.int .i64 0) (.slice (some ⟨g5, 0, none⟩) (s.thn.length + 1) c5) (.slice none 0 0)) mid (some ⟨g, 0, none⟩) d9 (l.set j (unrSt s)) := by
  have h := hS.putT hj 9 0 0 0 (s.thn ++ [s]) (some ⟨g5, 0, none⟩) c5 (hL.sub fun b o hd => hd.elim (fun h => ⟨by omega, fun e => by have e' : g = b := Option.some.inj e; omega⟩) (fun h => h.1)) (by simp [maxLen]; omega)
  rw [List.length_append] at h
  exact h
set_option maxRecDepth 100000 in
set_option maxHeartbeats 8000000 in
theorem implUnrollLoop_any (p : Pr) (k : Int) (at' ab : Option Addr) (ct cb : Nat) (w : World) (hT : InAt w Any p.types at') (hB : SlAt w Any p.body ab) (hs : p.types.length ≤ 100000) (hc : St.count p.body ≤ 10000) :
    Calls Try.prog 62 #[.agg #[.slice at' p.types.length ct, .slice ab p.body.length cb], .int .i64 k] w (ProgOk (unrOf p k).1 (unrOf p k).2 w) := by
  have hlb := count_length p.body
  go_enter Try.func62, Try.ntmps62
  go_wp2_with fail
  obtain ⟨wA, hwA⟩ : ∃ wA : World, wA = (w.alloc (.cells #[.slice at' p.types.length ct, .slice ab p.body.length cb] 30)).alloc (.cells #[.slice none 0 0, .slice none 0 0] 30) := ⟨_, rfl⟩
  have hgA : Gr w wA none := by rw [hwA]; exact ((Gr.refl _ _).alloc _).alloc _
  have q0 : wA.cell? ⟨w.heap.size, 0, none⟩ = some (.slice at' p.types.length ct) := by rw [hwA]; exact cell_of_row _ _ _ _ _ _ (heap2_0 _ _ _)
  have q1 : wA.cell? ⟨w.heap.size, 1, none⟩ = some (.slice ab p.body.length cb) := by rw [hwA]; exact cell_of_row _ _ _ _ _ _ (heap2_0 _ _ _)
  have hPA : Zp wA (w.heap.size + 1) (.slice none 0 0) (.slice none 0 0) := by
    rw [hwA]; exact ⟨cell_of_row _ _ _ _ _ _ (heap2_1 _ _ _), cell_of_row _ _ _ _ _ _ (heap2_1 _ _ _), frz_new (heap2_1 _ _ _)⟩
  have hszA : w.heap.size + 1 < wA.heap.size := hPA.lt
  rw [← hwA]
  clear hwA
  refine (valid_any p at' ab ct cb _ (hT.gr0 hgA) (hB.gr0 hgA) (by omega) (by omega)).mono ?_
  rintro e w1 ⟨rfl, hg⟩
  replace q0 := hg.cell q0 (by simp)
  replace q1 := hg.cell q1 (by simp)
  have hsz1 := hg.size
  have HP := Lib.hid (hPA.gr hg (by simp))
  have HG := Lib.hid (hgA.trans0 hg)
  clear hgA hPA hg
  cases hv : validP p with
  | false =>
    have HO := Lib.hid (unrOf_out (p := p) (k := k) (by rw [hv]; rfl))
    clear hv
    obtain ⟨z0, z1, zf⟩ := HP.out
    go_wp2_with fail
    (try simp only [Exit.inBlock, Exit.then])
    refine unr_ret (b := w.heap.size + 1) HP.out rfl rfl ?_
    rw [HO.out]
    exact ProgOk.no HG.out (by omega)
  | true =>
    have HV := Lib.hid hv
    clear hv
    go_wp2_with fail
    refine (isStmt_any p k at' ab ct cb _ (by omega)).mono ?_
    rintro e w2 ⟨rfl, hg⟩
    replace q0 := hg.cell q0 (by simp)
    replace q1 := hg.cell q1 (by simp)
    have hsz2 := hg.size
    replace HP := Lib.hid (HP.out.gr hg (by simp))
    replace HG := Lib.hid (HG.out.trans0 hg)
    clear hg
    cases hw : within k 0 ((p.body.length : Int) - 1) with
    | false =>
      have HO := Lib.hid (unrOf_out (p := p) (k := k) (by
        unfold within at hw
        rw [HV.out, Bool.true_and, ← hw]
        congr 1
        exact decide_eq_decide.2 (by omega)))
      clear hw
      obtain ⟨z0, z1, zf⟩ := HP.out
      go_wp2_with fail
      (try simp only [Exit.inBlock, Exit.then])
      refine unr_ret (b := w.heap.size + 1) HP.out rfl rfl ?_
      rw [HO.out]
      exact ProgOk.no HG.out (by omega)
    | true =>
      unfold within at hw
      simp only [Bool.and_eq_true, decide_eq_true_eq] at hw
      obtain ⟨j, rfl⟩ := Int.eq_ofNat_of_zero_le hw.1
      have hj : j < p.body.length := by omega
      have HO := Lib.hid (unrOf_in HV.out hj)
      clear hw
      obtain ⟨bb, oo, rfl, hst⟩ := (hB.gr0 HG.out).at hj
      obtain ⟨_, -, -, at1, ct1, ae1, ce1, c0, -, -, -, -, -, -, -⟩ := hst.out
      obtain ⟨sa, hsa⟩ : ∃ s, p.body[j] = s := ⟨_, rfl⟩
      rw [hsa] at c0 HO
      have HSA := Lib.hid hsa
      obtain ⟨o1, x1, y1, n1, t1, e1⟩ := sa
      simp only [St.op] at c0
      clear hst hsa
      by_cases ho : o1 = 10
      · subst ho
        have eo : ((10 : Int) == 10) = true := rfl
        go_wp2_with fail
        refine (own_any p at' (some ⟨bb, oo, none⟩) ct cb _ (hT.gr0 HG.out) (hB.gr0 HG.out) hs hc).mono ?_
        rintro e w3 ⟨a9, b9, c9, d9, rfl, hI, -, hg3, mid, hmid, hS, hob⟩
        obtain ⟨g, rfl⟩ := hS.addr (by omega)
        have hgl := hS.own g rfl
        have hgA : Gr w3 (w3.alloc (.cells #[.slice a9 p.types.length c9, .slice (some ⟨g, 0, none⟩) p.body.length d9] 30)) none := (Gr.refl _ _).alloc _
        have hPZ := Zp.new w3 (.slice a9 p.types.length c9) (.slice (some ⟨g, 0, none⟩) p.body.length d9) 30
        have hsz3 := hg3.size
        have hszx := HG.out.size
        have hzx := HP.out.lt
        have HP3 := Lib.hid (HP.out.gr (hg3.trans0 hgA) (by simp))
        have HG3 := Lib.hid (HG.out.trans0 (hg3.trans0 hgA))
        have HS3 := Lib.hid (hS.gr0 hgA)
        have HI3 := Lib.hid (hI.gr0 hgA)
        clear c0 q0 q1 hI hS hg3
        go_upto_region 4 with fail
        obtain ⟨wB, hwB⟩ : ∃ wB, wB = w3.alloc (.cells #[.slice a9 p.types.length c9, .slice (some ⟨g, 0, none⟩) p.body.length d9] 30) := ⟨_, rfl⟩
        have hszB : wB.heap.size = w3.heap.size + 1 := by rw [hwB]; simp
        rw [← hwB] at hgA hPZ HP3 HG3 HS3 HI3 ⊢
        clear hwB hgA
        have HPZ := Lib.hid hPZ
        obtain ⟨p0, p1, -⟩ := hPZ
        obtain ⟨r, hr, hrc⟩ := HS3.out.cell hj
        rw [HSA.out] at hr
        have hrow := hr
        obtain ⟨htl, -, at8, ct8, ae8, ce8, rfl, ht8, -⟩ := hr
        simp only [St.op, St.x, St.y, St.n, St.thn, St.els] at hrc htl ht8
        have s0 := hrc 0 _ rfl
        rw [Nat.add_zero] at s0
        have s1 := hrc 1 _ rfl
        have s2 := hrc 2 _ rfl
        have s3 := hrc 3 _ rfl
        have s4 := hrc 4 _ rfl
        have s5 := hrc 5 _ rfl
        have sf : ∀ o, wB.frozen? ⟨g, o, none⟩ = false := fun o => HS3.out.frz _ rfl
        clear hrc
        go_upto_region 5 with fail
        obtain ⟨wC, hwC⟩ : ∃ wC, wC = wB.alloc (.cells #[.int .i64 10, .int .i64 x1, .int .i64 y1, .int .i64 n1, .slice at8 t1.length ct8, .slice ae8 e1.length ce8] 126) := ⟨_, rfl⟩
        have hgC0 : Gr wB wC none := by rw [hwC]; exact (Gr.refl _ _).alloc _
        have hzC : Z6 wC (w3.heap.size + 1) (.int .i64 10) (.int .i64 x1) (.int .i64 y1) (.int .i64 n1) (.slice at8 t1.length ct8) (.slice ae8 e1.length ce8) := by rw [hwC, ← hszB]; exact Z6.new _ _ _ _ _ _ _ _
        rw [← hwC]
        clear hwC
        have HGC := Lib.hid (HG3.out.trans0 hgC0)
        have HSC := Lib.hid (HS3.out.gr0 hgC0)
        have HIC := Lib.hid (HI3.out.gr0 hgC0)
        have HPC := Lib.hid (HP3.out.gr hgC0 (by simp))
        have HROW := Lib.hid (show StRow wC (fun b o => Inn mid (some ⟨g, 0, none⟩) b o ∧ b < wC.heap.size) (.mk 10 x1 y1 n1 t1 e1) _ from hrow.map fun l a h => SlAt.lt l a (h.gr0 hgC0))
        have HTH := Lib.hid (ht8.gr0 hgC0).any
        have p0' := hgC0.cell p0 (by simp)
        have p1' := hgC0.cell p1 (by simp)
        have hszC := hzC.lt
        have hgC : g < wC.heap.size := (HSC.out.own g rfl).2
        have hmC : mid ≤ wC.heap.size := by have := (HSC.out.own g rfl).1; omega
        have hcg := count_get hj
        rw [HSA.out] at hcg
        have hct : 1 + St.count t1 ≤ St.count p.body := by simp only [St.inner] at hcg; omega
        have HCT := Lib.hid (show St.count t1 ≤ 10000 by omega)
        have htl5 : t1.length ≤ 100000 := by have := count_length t1; omega
        have HSM := Lib.hid (show ∀ W, Gr wC W none → (fun W => Gr w W none ∧ W.cell? ⟨w3.heap.size, 0, none⟩ = some (.slice a9 p.types.length c9) ∧ W.cell? ⟨w3.heap.size, 1, none⟩ = some (.slice (some ⟨g, 0, none⟩) p.body.length d9) ∧ Z6 W (w3.heap.size + 1) (.int .i64 10) (.int .i64 x1) (.int .i64 y1) (.int .i64 n1) (.slice at8 t1.length ct8) (.slice ae8 e1.length ce8)) W from fun W h => ⟨HGC.out.trans0 h, h.cell p0' (by simp), h.cell p1' (by simp), hzC.gr h (by simp)⟩)
        have hji : (0 : Int) ≤ (j : Int) ∧ (j : Int) < (p.body.length : Int) := by omega
        clear p0 p1 p0' p1' s0 s1 s2 s3 s4 s5 sf hcg hct ht8 hrow hgC0 hzC
        go_cut [] (fun wy => ∃ wx : World, wx = wy ∧ Sts wx mid (some ⟨g, 0, none⟩) d9 (p.body.set j (unrSt (.mk 10 x1 y1 n1 t1 e1))) ∧ Gr w wx none ∧ InAt wx Any p.types a9 ∧ (wx.cell? ⟨w3.heap.size, 0, none⟩ = some (.slice a9 p.types.length c9) ∧ wx.cell? ⟨w3.heap.size, 1, none⟩ = some (.slice (some ⟨g, 0, none⟩) p.body.length d9)) ∧ Zp wx (w.heap.size + 1) (.slice none 0 0) (.slice none 0 0))
        case first =>
--<RA
          refine wp_region_held_drew (S := fun W => Gr w W none ∧ W.cell? ⟨w3.heap.size, 0, none⟩ = some (.slice a9 p.types.length c9) ∧ W.cell? ⟨w3.heap.size, 1, none⟩ = some (.slice (some ⟨g, 0, none⟩) p.body.length d9) ∧ Z6 W (w3.heap.size + 1) (.int .i64 10) (.int .i64 x1) (.int .i64 y1) (.int .i64 n1) (.slice at8 t1.length ct8) (.slice ae8 e1.length ce8)) (by kernel_rfl) (HSM.out _ (Gr.refl _ _).drew) (fun hHeld => ?_)
          refine wpAnyH_take (i := 0) (v := ?_) rfl (by kernel_rfl) (by kernel_rfl) (by kernel_rfl) (fun _ _ _ h => h) (Or.inl ⟨by rfl, ?_⟩) hHeld ?_
          rotate_left
          focus (intro wq hq; clear hq; go_simp; try with_reducible rfl)
          simp only [Act.put, List.getElem_toArray, List.getElem_cons_zero, List.setIfInBounds_toArray, List.set_cons_zero, List.set_cons_succ]
          refine wpAnyH_take (i := 1) (v := ?_) rfl (by kernel_rfl) (by kernel_rfl) (by kernel_rfl) (fun _ _ _ h => h) (Or.inl ⟨by rfl, ?_⟩) hHeld ?_
          rotate_left
          focus (intro wq hq; have k1 := hq.2.2.1; go_simp; try with_reducible rfl)
          simp only [Act.put, List.getElem_toArray, List.getElem_cons_succ, List.getElem_cons_zero, List.setIfInBounds_toArray, List.set_cons_zero, List.set_cons_succ]
          refine wpAnyH_take (i := 2) (v := ?_) rfl (by kernel_rfl) (by kernel_rfl) (by kernel_rfl) (fun _ _ _ h => h) (Or.inl ⟨by rfl, ?_⟩) hHeld ?_
          rotate_left
          focus (intro wq hq; clear hq; go_simp; try with_reducible rfl)
          simp only [Act.put, List.getElem_toArray, List.getElem_cons_succ, List.getElem_cons_zero, List.setIfInBounds_toArray, List.set_cons_zero, List.set_cons_succ]
          refine wpAnyH_take (i := 3) (v := ?_) rfl (by kernel_rfl) (by kernel_rfl) (by kernel_rfl) (fun _ _ _ h => h) (Or.inl ⟨by rfl, ?_⟩) hHeld ?_
          rotate_left
          focus (intro wq hq; clear hq; go_simp; try with_reducible rfl)
          simp only [Act.put, List.getElem_toArray, List.getElem_cons_succ, List.getElem_cons_zero, List.setIfInBounds_toArray, List.set_cons_zero, List.set_cons_succ]
          refine wpAnyH_take (i := 4) (v := ?_) rfl (by kernel_rfl) (by kernel_rfl) (by kernel_rfl) (fun _ _ _ h => h) (Or.inl ⟨by rfl, ?_⟩) hHeld ?_
          rotate_left
          focus (intro wq hq; obtain ⟨z0, z1, z2, z3, z4, z5, -⟩ := hq.2.2.2; go_simp; try with_reducible rfl)
          simp only [Act.put, List.getElem_toArray, List.getElem_cons_succ, List.getElem_cons_zero, List.setIfInBounds_toArray, List.set_cons_zero, List.set_cons_succ]
          refine wpAnyH_take (i := 6) (v := ?_) rfl (by kernel_rfl) (by kernel_rfl) (by kernel_rfl) (fun _ _ _ h => h) (Or.inl ⟨by rfl, ?_⟩) hHeld ?_
          rotate_left
          focus (intro wq hq; obtain ⟨z0, z1, z2, z3, z4, z5, -⟩ := hq.2.2.2; go_simp; try with_reducible rfl)
          simp only [Act.put, List.getElem_toArray, List.getElem_cons_succ, List.getElem_cons_zero, List.setIfInBounds_toArray, List.set_cons_zero, List.set_cons_succ]
          refine wpAnyH_ready (rs := [5, 7]) (by kernel_rfl) (by simp) ?_
          refine (AllReadyH.cons rfl (fun K hK => ?_) (AllReadyH.cons rfl (fun K hK => ?_) AllReadyH.nil))
          · go_simp
            refine (own_all (St.count t1) HCT.out t1 at8 ct8 _ (Nat.le_refl _) (HTH.out.gr0 (Gr.refl wC none).drew)).mono ?_
            rintro e w4 ⟨a4, c4, rfl, hS4, hg4⟩
            have HG4 := Lib.hid (Gr.trans0 (Gr.refl wC none).drew hg4)
            have HS4 := Lib.hid (hS4.base (base' := wC.heap.size) (by simp))
            clear hS4 hg4
            try dsimp only
            refine hK.out _ _ (HSM.out _ HG4.out) (fun hHeld => ?_)
            clear hK K
            try simp only [Act.put, List.getElem_toArray, List.getElem_cons_succ, List.getElem_cons_zero, List.setIfInBounds_toArray, List.set_cons_zero, List.set_cons_succ]
            refine wpAnyH_ready (rs := [7]) (by kernel_rfl) (by simp) ?_
            refine (AllReadyH.cons rfl (fun K hK => ?_) AllReadyH.nil)
            go_simp
            try dsimp only
            refine hK.out _ _ (HSM.out _ (HG4.out.alloc _)) (fun hHeld => ?_)
            clear hK K
            try simp only [Act.put, List.getElem_toArray, List.getElem_cons_succ, List.getElem_cons_zero, List.setIfInBounds_toArray, List.set_cons_zero, List.set_cons_succ]
            have HB4 := Lib.hid (show ∀ b, ob a4 = some b → wC.heap.size ≤ b from fun b e => (HS4.out.own b e).1)
            have hszw : wC.heap.size ≤ (w4.alloc (.cells #[.int .i64 10, .int .i64 x1, .int .i64 y1, .int .i64 n1, .slice at8 t1.length ct8, .slice ae8 e1.length ce8] 126)).heap.size := ((HG4.out.alloc _)).size
            refine wpAnyH_ready (rs := [8]) (by kernel_rfl) (by simp) ?_
            refine (AllReadyH.cons rfl (fun K hK => ?_) AllReadyH.nil)
            obtain ⟨g5, c5, w5, hrun, hL5, hb5, hg5⟩ := app_one (w4.alloc (.cells #[.int .i64 10, .int .i64 x1, .int .i64 y1, .int .i64 n1, .slice at8 t1.length ct8, .slice ae8 e1.length ce8] 126)) 28 (HS4.out.gr0 ((Gr.refl _ none).alloc _)) hszw (HROW.out.gr0 (HG4.out.alloc _)) (fun b o hd e => by have := HB4.out b e; have := hd.2; omega) ⟨w4.heap.size, 0, none⟩ 1 (row_cells (heap1_0 _ _)) htl5
            refine step_run rfl (.tmp 39) (.tmp 41) 28 rfl _ _ rfl rfl _ _ hrun ?_
            have HG5 := Lib.hid (Gr.trans (HG4.out.alloc _) hg5 (fun r e => .inr (HB4.out r e)))
            have HS5 := Lib.hid (HSC.out.gr0 HG5.out)
            have HL5 := Lib.hid hL5
            clear hrun hL5 hb5 hg5 hszw
            try dsimp only
            refine hK.out _ _ (HSM.out _ HG5.out) (fun hHeld => ?_)
            clear hK K
            try simp only [Act.put, List.getElem_toArray, List.getElem_cons_succ, List.getElem_cons_zero, List.setIfInBounds_toArray, List.set_cons_zero, List.set_cons_succ]
            refine wpAnyH_take (i := 9) (v := ?_) rfl (by kernel_rfl) (by kernel_rfl) (by kernel_rfl) (fun _ _ _ h => h) (Or.inl ⟨by rfl, ?_⟩) hHeld ?_
            rotate_left
            focus (intro wq hq; clear hq; go_simp; try with_reducible rfl)
            simp only [Act.put, List.getElem_toArray, List.getElem_cons_succ, List.getElem_cons_zero, List.setIfInBounds_toArray, List.set_cons_zero, List.set_cons_succ]
            refine wpAnyH_take (i := 10) (v := ?_) rfl (by kernel_rfl) (by kernel_rfl) (by kernel_rfl) (fun _ _ _ h => h) (Or.inl ⟨by rfl, ?_⟩) hHeld ?_
            rotate_left
            focus (intro wq hq; clear hq; go_simp; try with_reducible rfl)
            simp only [Act.put, List.getElem_toArray, List.getElem_cons_succ, List.getElem_cons_zero, List.setIfInBounds_toArray, List.set_cons_zero, List.set_cons_succ]
            refine wpAnyH_ready (rs := [11]) (by kernel_rfl) (by simp) ?_
            refine (AllReadyH.cons rfl (fun K hK => ?_) AllReadyH.nil)
            obtain ⟨r, hr5, hrc⟩ := HS5.out.cell hj
            obtain ⟨-, -, at5, ct5, ae5, ce5, rfl, -, -⟩ := hr5
            have s0 := hrc 0 _ rfl
            rw [Nat.add_zero] at s0
            have s1 := hrc 1 _ rfl
            have s2 := hrc 2 _ rfl
            have s3 := hrc 3 _ rfl
            have s4 := hrc 4 _ rfl
            have s5 := hrc 5 _ rfl
            have sf : ∀ o, w5.frozen? ⟨g, o, none⟩ = false := fun o => HS5.out.frz _ rfl
            clear hrc
            go_simp
            have h6 := putSix_own w5 g (j * 6) (.int .i64 9) (.int .i64 0) (.int .i64 0) (.int .i64 0) (.slice (some ⟨g5, 0, none⟩) (t1.length + 1) c5) (.slice none 0 0)
            have HP6 := Lib.hid (unr_put (s := .mk 10 x1 y1 n1 t1 e1) (c5 := c5) HS5.out hj HL5.out hgC hmC htl5)
            try dsimp only
            refine hK.out _ _ (⟨hHeld.1.trans h6 (fun r e => .inr (by cases e; omega)), h6.cell hHeld.2.1 (by simp; omega), h6.cell hHeld.2.2.1 (by simp; omega), hHeld.2.2.2.gr h6 (by simp; omega)⟩) (fun hHeld => ?_)
            clear hK K
            try simp only [Act.put, List.getElem_toArray, List.getElem_cons_succ, List.getElem_cons_zero, List.setIfInBounds_toArray, List.set_cons_zero, List.set_cons_succ]
            refine wpAnyH_done (by kernel_rfl) ?_ _
            have HPP := Lib.hid ((HPC.out.gr HG5.out (by simp)).gr h6 (by simp; omega))
            have HII := Lib.hid (InAt.gr h6 (fun b _ hd e => by have := (hob b hd).2; have := Option.some.inj e; omega) (HIC.out.gr0 HG5.out).block)
            have HHH := Lib.hid hHeld
            clear s0 s1 s2 s3 s4 s5 sf h6 hHeld
            go_wp2_with fail
            go_meet
            exact ⟨_, rfl, HP6.out, HHH.out.1, HII.out.any, ⟨HHH.out.2.1, HHH.out.2.2.1⟩, HPP.out⟩
          · go_simp
            try dsimp only
            refine hK.out _ _ (HSM.out _ ((Gr.refl wC none).drew.alloc _)) (fun hHeld => ?_)
            clear hK K
            try simp only [Act.put, List.getElem_toArray, List.getElem_cons_succ, List.getElem_cons_zero, List.setIfInBounds_toArray, List.set_cons_zero, List.set_cons_succ]
            refine wpAnyH_ready (rs := [5]) (by kernel_rfl) (by simp) ?_
            refine (AllReadyH.cons rfl (fun K hK => ?_) AllReadyH.nil)
            go_simp
            refine (own_all (St.count t1) HCT.out t1 at8 ct8 _ (Nat.le_refl _) (HTH.out.gr0 ((Gr.refl wC none).drew.alloc _))).mono ?_
            rintro e w4 ⟨a4, c4, rfl, hS4, hg4⟩
            have HG4 := Lib.hid (Gr.trans0 ((Gr.refl wC none).drew.alloc _) hg4)
            have HS4 := Lib.hid (hS4.base (base' := wC.heap.size) (by simp))
            have HRC := Lib.hid (show w4.heap[wC.drew.heap.size]? = some (.cells #[.int .i64 10, .int .i64 x1, .int .i64 y1, .int .i64 n1, .slice at8 t1.length ct8, .slice ae8 e1.length ce8] 126 (0, 0)) from (hg4.block _ (by simp) (by simp)).trans (heap1_0 _ _))
            clear hS4 hg4
            try dsimp only
            refine hK.out _ _ (HSM.out _ HG4.out) (fun hHeld => ?_)
            clear hK K
            try simp only [Act.put, List.getElem_toArray, List.getElem_cons_succ, List.getElem_cons_zero, List.setIfInBounds_toArray, List.set_cons_zero, List.set_cons_succ]
            have HB4 := Lib.hid (show ∀ b, ob a4 = some b → wC.heap.size ≤ b from fun b e => (HS4.out.own b e).1)
            have hszw : wC.heap.size ≤ (w4).heap.size := (HG4.out).size
            refine wpAnyH_ready (rs := [8]) (by kernel_rfl) (by simp) ?_
            refine (AllReadyH.cons rfl (fun K hK => ?_) AllReadyH.nil)
            obtain ⟨g5, c5, w5, hrun, hL5, hb5, hg5⟩ := app_one (w4) 28 HS4.out hszw (HROW.out.gr0 HG4.out) (fun b o hd e => by have := HB4.out b e; have := hd.2; omega) ⟨wC.heap.size, 0, none⟩ 1 (row_cells HRC.out) htl5
            refine step_run rfl (.tmp 39) (.tmp 41) 28 rfl _ _ rfl rfl _ _ hrun ?_
            have HG5 := Lib.hid (Gr.trans HG4.out hg5 (fun r e => .inr (HB4.out r e)))
            have HS5 := Lib.hid (HSC.out.gr0 HG5.out)
            have HL5 := Lib.hid hL5
            clear hrun hL5 hb5 hg5 hszw
            try dsimp only
            refine hK.out _ _ (HSM.out _ HG5.out) (fun hHeld => ?_)
            clear hK K
            try simp only [Act.put, List.getElem_toArray, List.getElem_cons_succ, List.getElem_cons_zero, List.setIfInBounds_toArray, List.set_cons_zero, List.set_cons_succ]
            refine wpAnyH_take (i := 9) (v := ?_) rfl (by kernel_rfl) (by kernel_rfl) (by kernel_rfl) (fun _ _ _ h => h) (Or.inl ⟨by rfl, ?_⟩) hHeld ?_
            rotate_left
            focus (intro wq hq; clear hq; go_simp; try with_reducible rfl)
            simp only [Act.put, List.getElem_toArray, List.getElem_cons_succ, List.getElem_cons_zero, List.setIfInBounds_toArray, List.set_cons_zero, List.set_cons_succ]
            refine wpAnyH_take (i := 10) (v := ?_) rfl (by kernel_rfl) (by kernel_rfl) (by kernel_rfl) (fun _ _ _ h => h) (Or.inl ⟨by rfl, ?_⟩) hHeld ?_
            rotate_left
            focus (intro wq hq; clear hq; go_simp; try with_reducible rfl)
            simp only [Act.put, List.getElem_toArray, List.getElem_cons_succ, List.getElem_cons_zero, List.setIfInBounds_toArray, List.set_cons_zero, List.set_cons_succ]
            refine wpAnyH_ready (rs := [11]) (by kernel_rfl) (by simp) ?_
            refine (AllReadyH.cons rfl (fun K hK => ?_) AllReadyH.nil)
            obtain ⟨r, hr5, hrc⟩ := HS5.out.cell hj
            obtain ⟨-, -, at5, ct5, ae5, ce5, rfl, -, -⟩ := hr5
            have s0 := hrc 0 _ rfl
            rw [Nat.add_zero] at s0
            have s1 := hrc 1 _ rfl
            have s2 := hrc 2 _ rfl
            have s3 := hrc 3 _ rfl
            have s4 := hrc 4 _ rfl
            have s5 := hrc 5 _ rfl
            have sf : ∀ o, w5.frozen? ⟨g, o, none⟩ = false := fun o => HS5.out.frz _ rfl
            clear hrc
            go_simp
            have h6 := putSix_own w5 g (j * 6) (.int .i64 9) (.int .i64 0) (.int .i64 0) (.int .i64 0) (.slice (some ⟨g5, 0, none⟩) (t1.length + 1) c5) (.slice none 0 0)
            have HP6 := Lib.hid (unr_put (s := .mk 10 x1 y1 n1 t1 e1) (c5 := c5) HS5.out hj HL5.out hgC hmC htl5)
            try dsimp only
            refine hK.out _ _ (⟨hHeld.1.trans h6 (fun r e => .inr (by cases e; omega)), h6.cell hHeld.2.1 (by simp; omega), h6.cell hHeld.2.2.1 (by simp; omega), hHeld.2.2.2.gr h6 (by simp; omega)⟩) (fun hHeld => ?_)
            clear hK K
            try simp only [Act.put, List.getElem_toArray, List.getElem_cons_succ, List.getElem_cons_zero, List.setIfInBounds_toArray, List.set_cons_zero, List.set_cons_succ]
            refine wpAnyH_done (by kernel_rfl) ?_ _
            have HPP := Lib.hid ((HPC.out.gr HG5.out (by simp)).gr h6 (by simp; omega))
            have HII := Lib.hid (InAt.gr h6 (fun b _ hd e => by have := (hob b hd).2; have := Option.some.inj e; omega) (HIC.out.gr0 HG5.out).block)
            have HHH := Lib.hid hHeld
            clear s0 s1 s2 s3 s4 s5 sf h6 hHeld
            go_wp2_with fail
            go_meet
            exact ⟨_, rfl, HP6.out, HHH.out.1, HII.out.any, ⟨HHH.out.2.1, HHH.out.2.2.1⟩, HPP.out⟩
          --RA>
        case rest =>
          obtain ⟨wx, rfl, hSx, hGx, hIx, ⟨k0, k1⟩, hPx⟩ := hcut
          have hlq : (unrPr p j (.mk 10 x1 y1 n1 t1 e1)).body.length = p.body.length := List.length_set
          obtain ⟨q, hq⟩ : ∃ q, unrPr p j (.mk 10 x1 y1 n1 t1 e1) = q := ⟨_, rfl⟩
          have hqt : q.types = p.types := by rw [← hq]; rfl
          have hqb : q.body = p.body.set j (unrSt (.mk 10 x1 y1 n1 t1 e1)) := by rw [← hq]; rfl
          rw [hq] at hlq HO
          rw [← hqb] at hSx
          rw [← hqt] at hIx k0
          rw [← hlq] at k1
          have HSX := Lib.hid hSx
          have HIX := Lib.hid hIx
          have HPX := Lib.hid hPx
          have HGX := Lib.hid hGx
          have HQL := Lib.hid (show q.types.length ≤ 100000 ∧ q.body.length ≤ 100000 by rw [hqt, hlq]; omega)
          clear hlq hq hqt hqb hSx hIx hPx hGx
          go_wp2_with fail
          refine (valid_any q a9 (some ⟨g, 0, none⟩) c9 d9 _ HIX.out HSX.out.at.any (by have := HQL.out; omega) (by have := HQL.out; omega)).mono ?_
          rintro e w7 ⟨rfl, hg7⟩
          replace k0 := hg7.cell k0 (by simp)
          replace k1 := hg7.cell k1 (by simp)
          have HP7 := Lib.hid (HPX.out.gr hg7 (by simp))
          have HG7 := Lib.hid (HGX.out.trans0 hg7)
          have HS7 := Lib.hid (HSX.out.gr0 hg7)
          have HI7 := Lib.hid (HIX.out.gr0 hg7)
          clear hg7
          cases hvq : validP q with
          | false =>
            have HO2 := Lib.hid (show unrOf p j = (⟨[], []⟩, false) by rw [HO.out, hvq]; rfl)
            clear hvq
            obtain ⟨z0, z1, zf⟩ := HP7.out
            go_wp2_with fail
            (try simp only [Exit.inBlock, Exit.then])
            refine unr_ret (b := w.heap.size + 1) HP7.out rfl rfl ?_
            rw [HO2.out]
            exact ProgOk.no HG7.out (by omega)
          | true =>
            have HO2 := Lib.hid (show unrOf p j = (q, true) by rw [HO.out, hvq]; rfl)
            have HE := Lib.hid (unr_end (c9 := c9) HG7.out HI7.out HS7.out (by omega) (fun g' h => ⟨by have := (hob g' h).1; omega, (hob g' h).2⟩))
            clear hvq
            obtain ⟨z0, z1, zf⟩ := HP7.out
            go_wp2_with fail
            (try simp only [Exit.inBlock, Exit.then])
            refine unr_ret (b := w.heap.size + 1) HP7.out rfl rfl ?_
            rw [HO2.out]
            exact HE.out
      · have eo : (o1 == 10) = false := beq_eq_false_iff_ne.2 ho
        have HO2 := Lib.hid (show unrOf p j = (⟨[], []⟩, false) by rw [HO.out, if_neg (by simp [St.op]; omega)])
        obtain ⟨z0, z1, zf⟩ := HP.out
        go_wp2_with fail
        (try simp only [Exit.inBlock, Exit.then])
        refine unr_ret (b := w.heap.size + 1) HP.out rfl rfl ?_
        rw [HO2.out]
        exact ProgOk.no HG.out (by omega)
end Go.Proofs.Ytdnhinkjmjpnnaa

/- Who uses what a point sets: walks of UsersOf of the program and of the reference. -/
import Derived.Test.YtadlnjglpigjmaaDT

import Derived.Deep.RegionHeld3

namespace Go.Proofs.Ytadlnjglpigjmaa

open Go.RowKit

/-- What UsersOf says. -/
noncomputable def usersOf (p : Pr) (a : Int) : List Int := if (0 ≤ a ∧ a < (ptsOf p).length) ∧ 0 ≤ setOf (ptAt (pts p) a.toNat).op (ptAt (pts p) a.toNat).x then
  coll (fun i => usL p.types (pts p) i (setOf (ptAt (pts p) a.toNat).op (ptAt (pts p) a.toNat).x).toNat && trkB p setV i (setOf (ptAt (pts p) a.toNat).op (ptAt (pts p) a.toNat).x).toNat a.toNat) (pts p).length else []
theorem usersOf_in {p : Pr} {i s : Nat} (hv : validP p = true) (hi : i < (pts p).length) {q : Pt} (hq : ptAt (pts p) i = q) (hs : setOf q.op q.x = (s : Int)) : usersOf p i = coll (fun k => usL p.types (pts p) k s && trkB p setV k s i) (pts p).length := by
  unfold usersOf
  have hp : ptsOf p = pts p := by unfold ptsOf; rw [if_pos hv]
  have e : ((i : Nat) : Int).toNat = i := by omega
  rw [e, hq, hs, hp, if_pos ⟨⟨by omega, by omega⟩, by omega⟩]
  have e2 : ((s : Nat) : Int).toNat = s := by omega
  rw [e2]
theorem usersOf_out1 {p : Pr} {a : Int} (h : ¬ (0 ≤ a ∧ a < (ptsOf p).length)) : usersOf p a = [] := by unfold usersOf; rw [if_neg (fun h2 => h h2.1)]
theorem usersOf_out2 {p : Pr} {i : Nat} {q : Pt} (hq : ptAt (pts p) i = q) (hs : ¬ 0 ≤ setOf q.op q.x) : usersOf p i = [] := by
  unfold usersOf
  have e : ((i : Nat) : Int).toNat = i := by omega
  rw [e, hq, if_neg (fun h2 => hs h2.2)]
theorem usersOf_len (p : Pr) (a : Int) : (usersOf p a).length ≤ 1048576 := by
  unfold usersOf
  split
  · rename_i h
    have := pts_len (valid_pos' (p := p) (by omega))
    exact Nat.le_trans (coll_len _ _) (by omega)
  · simp
set_option maxRecDepth 100000 in
set_option maxHeartbeats 4000000 in
theorem implUsersOf_any (p : Pr) (a : Int) (at' ab : Option Addr) (ct cb : Nat) (w : World) (hT : InAt w Any p.types at') (hB : SlAt w Any p.body ab) (hs : p.types.length ≤ 1048576) (hc : p.body.length ≤ 1048576) :
    Calls Try.prog 39 #[.agg #[.slice at' p.types.length ct, .slice ab p.body.length cb], .int .i64 a] w (HandI (usersOf p a) w) := by
  have hg1 : ∀ o o', Gr w ((w.alloc o).alloc o') none := fun o o' => ((Gr.refl _ _).alloc _).alloc _
  go_enter Try.func39, Try.ntmps39
  go_wp2_with fail
  refine (graphOf_any p [a] at' ab _ ct cb _ _ (hT.gr0 (hg1 _ _)) (hB.gr0 (hg1 _ _)) (inAt_one _ _ _) hs hc (by simp)).mono ?_
  rintro e w1 ⟨hg, hif⟩
  have hG1 : Gr w w1 none := (hg1 _ _).trans0 hg
  clear hg
  rw [graph_one'] at hif
  by_cases hok : 0 ≤ a ∧ a < (ptsOf p).length
  · rw [if_pos (by simp [hok])] at hif
    obtain ⟨gb, rfl, hgb, hGA⟩ := hif
    have hv : validP p = true := valid_pos' (by omega)
    have hp : ptsOf p = pts p := by unfold ptsOf; rw [if_pos hv]
    rw [hp] at hok
    obtain ⟨i, rfl⟩ := Int.eq_ofNat_of_zero_le hok.1
    have hi : i < (pts p).length := by omega
    have HV := Lib.hid hv
    have h6 := valid_types hv
    have hl : (pts p).length ≤ 61 := pts_len hv
    have hst := set_in hv hi
    rw [← ptAt_get hi] at hst
    have HGA := Lib.hid hGA
    obtain ⟨L, a3, n3, a4, n4, al, cl, hL, d0, d1, d2, hr1, hr2, hr3⟩ := hGA
    have HL := Lib.hid hL
    rw [← hL] at hi hl hst
    obtain ⟨b, po, rfl, an, cn, c0, c1, c2, c3, c4, -, -⟩ := hr3 i hi
    obtain ⟨q, eq⟩ : ∃ q, L[i] = q := ⟨_, rfl⟩
    rw [eq] at c0 c1 c2 c3 c4
    have hpa : ptAt L i = q := (ptAt_get hi).trans eq
    rw [hpa] at hst
    have HPA := Lib.hid (show ptAt (pts p) i = q by rw [← hL]; exact hpa)
    have HR3 := Lib.hid hr3
    obtain ⟨nn, hnn⟩ : ∃ nn, q.next.length = nn := ⟨_, rfl⟩
    rw [hnn] at c4
    obtain ⟨s, hss⟩ : ∃ s, setOf q.op q.x = s := ⟨_, rfl⟩
    rw [hss] at hst
    have HSS := Lib.hid hss
    clear hok hv hp d0 d1 hr1 hr2 hr3 hL eq hpa hnn hss
    go_wp2_with fail
    refine (sets_any q.op q.x q.y q.n _ _).mono ?_
    rw [HSS.out]
    rintro e w2 ⟨rfl, hg2⟩
    replace d2 := hg2.cell d2 (by simp)
    replace c0 := hg2.cell c0 (by simp)
    replace c1 := hg2.cell c1 (by simp)
    replace c2 := hg2.cell c2 (by simp)
    replace c3 := hg2.cell c3 (by simp)
    replace c4 := hg2.cell c4 (by simp)
    have HG2 := Lib.hid hg2
    clear hg2
    by_cases h0 : 0 ≤ s
    · obtain ⟨sj, rfl⟩ := Int.eq_ofNat_of_zero_le h0
      have hs6 : sj < 6 := by omega
      have HO := Lib.hid (usersOf_in HV.out (by rw [← HL.out]; exact hi) HPA.out HSS.out)
      go_wp2_with fail
      refine (sets_any q.op q.x q.y q.n _ _).mono ?_
      rw [HSS.out]
      rintro e w3 ⟨rfl, hg3⟩
      have HG3 := Lib.hid (HG2.out.trans0 hg3)
      replace d2 := hg3.cell d2 (by simp)
      clear hg3 c0 c1 c2 c3 c4
      go_wp2_with fail
      refine (setters_any p gb _ (HGA.out.gr HG3.out) HV.out).mono ?_
      rintro e w4 ⟨g, W, rfl, hF, h64, ht, hg4⟩
      rw [← HL.out] at hF ⊢
      have HG4 := Lib.hid (HG3.out.trans0 hg4)
      replace d2 := hg4.cell d2 (by simp)
      have HF := Lib.hid hF
      have H64 := Lib.hid h64
      have HT := Lib.hid (show ∀ k, (W k sj).testBit i = trkB p setV k sj i from fun k => by rw [Bool.eq_iff_iff, trkB_iff]; exact ht k (sj, i))
      have hC0 : Coll w4 w.heap.size w4.heap.size (fun k => usL p.types L k sj && trkB p setV k sj i) 0 none 0 0 := Coll.nil _ (hG1.trans0 HG4.out).size _
      clear hF h64 ht hg4
      go_wp2_with fail
      go_loopw [9, 47] (fun v s wr => ∃ (k m cap : Nat) (ao : Option Addr), k ≤ L.length ∧ s = .int .i64 k ∧ v = .slice ao m cap ∧ Coll wr w.heap.size w4.heap.size (fun k => usL p.types L k sj && trkB p setV k sj i) k ao m cap ∧ Gr w4 wr none) (fun _ s _ => L.length - (intOf s).toNat)
      case atStart => exact ⟨0, 0, 0, _, Nat.zero_le _, rfl, rfl, hC0, Gr.refl _ _⟩
      case round =>
        obtain ⟨k, m, cap, ao, hk, rfl, rfl, hCo, hg⟩ := hrel
        have hnk := hCo.le
        have HCo := Lib.hid hCo
        have HG := Lib.hid hg
        clear hCo hC0 d2
        by_cases hkL : k < L.length
        · obtain ⟨b5, po5, e5, an5, cn5, c0, c1, c2, c3, c4, -, -⟩ := (HR3.out.gr (HG4.out.trans0 hg)) k hkL
          cases e5
          obtain ⟨r, er⟩ : ∃ r, L[k] = r := ⟨_, rfl⟩
          rw [er] at c0 c1 c2 c3 c4
          have HRA := Lib.hid ((ptAt_get hkL).trans er)
          obtain ⟨n5, hn5⟩ : ∃ n5, r.next.length = n5 := ⟨_, rfl⟩
          rw [hn5] at c4
          clear er hn5 hg
          go_wp2_with fail
          refine (used_any p gb r.op r.x r.y r.n (.slice an5 n5 cn5) _ (HGA.out.gr (HG4.out.trans0 (HG.out.alloc _))) h6).mono ?_
          rintro e w5 ⟨U, rfl, hU, hU6, hg5⟩
          have hG5 : Gr wr w5 none := ((Gr.refl _ _).alloc _).trans0 hg5
          have HC5 := Lib.hid (HCo.out.gr hG5)
          have HG5 := Lib.hid (HG.out.trans0 hG5)
          have t0 := (HF.out.gr0 HG5.out).cell hkL hs6
          have HUB := Lib.hid (show U.testBit sj = usL p.types L k sj by rw [hU]; unfold usL; rw [HRA.out])
          have hb1 : bits BinOp.and .i64 ((U : Int) / 2 ^ sj) 1 = if U.testBit sj then 1 else 0 := by
            rw [show (U : Int) / 2 ^ sj = ((U / 2 ^ sj : Nat) : Int) from by simp]; exact i64_bit (by omega)
          have hb2 : bits BinOp.and .u64 ((W k sj : Int) / 2 ^ i) 1 = if (W k sj).testBit i then 1 else 0 := by
            rw [show (W k sj : Int) / 2 ^ i = ((W k sj / 2 ^ i : Nat) : Int) from by simp]; exact u64_bit (H64.out k sj)
          have hi64 : i < 64 := by omega
          have HTB := Lib.hid (HT.out k)
          obtain ⟨X, hX⟩ : ∃ X, W k sj = X := ⟨_, rfl⟩
          rw [hX] at t0 hb2 HTB
          obtain ⟨u1, hu1⟩ : ∃ u1, U.testBit sj = u1 := ⟨_, rfl⟩
          obtain ⟨u2, hu2⟩ : ∃ u2, X.testBit i = u2 := ⟨_, rfl⟩
          rw [hu1] at hb1 HUB
          rw [hu2] at hb2 HTB
          clear hU hg5 hG5 c0 c1 c2 c3 c4 hX hu1 hu2
          cases u1 with
          | false =>
            rw [if_neg (by simp)] at hb1
            have HN := Lib.hid (show (usL p.types L k sj && trkB p setV k sj i) = false by rw [← HUB.out]; rfl)
            go_wp2_with fail
            go_roundw
            case rel => exact ⟨k + 1, m, cap, ao, by omega, by go_num, rfl, HC5.out.no HN.out, HG5.out⟩
            case measure => simp [intOf]; omega
          | true =>
            rw [if_pos rfl] at hb1
            cases u2 with
            | false =>
              rw [if_neg (by simp)] at hb2
              have HN := Lib.hid (show (usL p.types L k sj && trkB p setV k sj i) = false by rw [← HUB.out, ← HTB.out]; rfl)
              go_wp2_with fail
              go_roundw
              case rel => exact ⟨k + 1, m, cap, ao, by omega, by go_num, rfl, HC5.out.no HN.out, HG5.out⟩
              case measure => simp [intOf]; omega
            | true =>
              rw [if_pos rfl] at hb2
              have HN := Lib.hid (show (usL p.types L k sj && trkB p setV k sj i) = true by rw [← HUB.out, ← HTB.out]; rfl)
              go_wp2_with (at_builtin; refine app_c w5 _ rfl (.tmp 71) (.tmp 73) rfl w.heap.size w4.heap.size ao cap m _ k rfl HC5.out ((Gr.refl _ _).alloc _) HN.out w5.heap.size 1 rfl (cell_of_row _ _ _ _ _ _ (heap1_0 _ _)) (by omega) HG5.out.size ?_; rintro g' cap' w6 hC6 hg6)
              go_roundw
              case rel => exact ⟨k + 1, m + 1, cap', _, by omega, by go_num, rfl, hC6, hg6 _ (HG5.out.alloc _) (Nat.le_refl _)⟩
              case measure => simp [intOf]; omega
        · obtain rfl : k = L.length := by omega
          go_wp2_with fail
          go_ret
          exact HCo.out.hand (by rw [HO.out, ← HL.out]) (hG1.trans0 (HG4.out.trans0 hg))
    · have HO := Lib.hid (usersOf_out2 HPA.out (by rw [HSS.out]; exact h0))
      go_wp2_with fail
      go_ret
      rw [HO.out]
      exact HandI.nil _ _ (hG1.trans0 HG2.out)
  · rw [if_neg (by simp; omega)] at hif
    subst hif
    have HO := Lib.hid (usersOf_out1 hok)
    clear hok
    go_wp2_with fail
    go_ret
    rw [HO.out]
    exact HandI.nil _ _ hG1
set_option maxRecDepth 100000 in
set_option maxHeartbeats 4000000 in
theorem specUsersOf_any (p : Pr) (a : Int) (at' ab : Option Addr) (ct cb : Nat) (w : World) (hT : InAt w Any p.types at') (hB : SlAt w Any p.body ab) (hs : p.types.length ≤ 1048576) (hc : St.count p.body ≤ 1048576) :
    Calls Try.prog 38 #[.agg #[.slice at' p.types.length ct, .slice ab p.body.length cb], .int .i64 a] w (HandI (usersOf p a) w) := by
  have hlc := count_length p.body
  have hg1 : ∀ o o', Gr w ((w.alloc o).alloc o') none := fun o o' => ((Gr.refl _ _).alloc _).alloc _
  go_enter Try.func38, Try.ntmps38
  go_wp2_with fail
  refine (specPointsOf_any p at' ab ct cb _ (hT.gr0 (hg1 _ _)) (hB.gr0 (hg1 _ _)) hs hc).mono ?_
  rintro e w1 ⟨L, am, c, hM, rfl, hown, hg⟩
  have hG1 : Gr w w1 none := (hg1 _ _).trans0 hg
  have hE : w1.heap[w.heap.size + 1]? = some (.cells #[] 3 (0, 0)) := (hg.block _ (by simp) (by simp)).trans (heap2_1 _ _ _)
  have q0 : w1.cell? ⟨w.heap.size, 0, none⟩ = some (.slice at' p.types.length ct) := hg.cell (p := ⟨w.heap.size, 0, none⟩) (cell_of_row _ _ _ _ _ _ (heap2_0 _ _ _)) (by simp)
  have q1 : w1.cell? ⟨w.heap.size, 1, none⟩ = some (.slice ab p.body.length cb) := hg.cell (p := ⟨w.heap.size, 1, none⟩) (cell_of_row _ _ _ _ _ _ (heap2_0 _ _ _)) (by simp)
  have HR := Lib.hid hown.read
  have HM := Lib.hid hM
  clear hg hown hM
  have hNil : ∀ w2, Gr w1 w2 none → HandI [] w (.returned (.slice (some ⟨w.heap.size + 1, 0, none⟩) 0 0)) w2 := fun w2 h =>
    Lst.hand (Lst.empty (base := w.heap.size) (Nat.le_refl _) (by omega) ((h.block _ (lt_of_block hE) (by simp)).trans hE)) rfl (hG1.trans0 h)
  have HNIL := Lib.hid hNil
  clear hNil
  by_cases ha0 : a < 0
  · have HO := Lib.hid (usersOf_out1 (p := p) (a := a) (by omega))
    go_wp2_with fail
    go_ret
    rw [HO.out]
    exact HNIL.out _ (Gr.refl _ _)
  by_cases ha1 : (L.length : Int) ≤ a
  · have HO := Lib.hid (usersOf_out1 (p := p) (a := a) (by rw [← HM.out]; omega))
    go_wp2_with fail
    go_ret
    rw [HO.out]
    exact HNIL.out _ (Gr.refl _ _)
  obtain ⟨i, rfl⟩ := Int.eq_ofNat_of_zero_le (show 0 ≤ a by omega)
  have hi : i < L.length := by omega
  have hv : validP p = true := valid_pos' (by rw [← HM.out]; omega)
  have hp : L = pts p := by rw [HM.out]; unfold ptsOf; rw [if_pos hv]
  have HL := Lib.hid hp
  have HV := Lib.hid hv
  have h6 := valid_types hv
  have hl : L.length ≤ 61 := by rw [hp]; exact pts_len hv
  have hst := set_in hv (show i < (pts p).length by rw [← hp]; exact hi)
  rw [← ptAt_get, ← hp] at hst
  obtain ⟨b, po, rfl, an, cn, c0, c1, c2, c3, c4, -, -⟩ := HR.out i hi
  obtain ⟨q, eq⟩ : ∃ q, L[i] = q := ⟨_, rfl⟩
  rw [eq] at c0 c1 c2 c3 c4
  have hpa : ptAt L i = q := (ptAt_get hi).trans eq
  rw [hpa] at hst
  have HPA := Lib.hid (show ptAt (pts p) i = q by rw [← hp]; exact hpa)
  obtain ⟨nn, hnn⟩ : ∃ nn, q.next.length = nn := ⟨_, rfl⟩
  rw [hnn] at c4
  obtain ⟨s, hss⟩ : ∃ s, setOf q.op q.x = s := ⟨_, rfl⟩
  rw [hss] at hst
  have HSS := Lib.hid hss
  clear hv hp eq hpa hnn hss ha1 ha0
  go_wp2_with fail
  refine (l3Set_any q.op q.x q.y q.n _ _).mono ?_
  rw [HSS.out]
  rintro e w2 ⟨rfl, hg2⟩
  replace c0 := hg2.cell c0 (by simp)
  replace c1 := hg2.cell c1 (by simp)
  replace c2 := hg2.cell c2 (by simp)
  replace c3 := hg2.cell c3 (by simp)
  replace c4 := hg2.cell c4 (by simp)
  replace q0 := hg2.cell q0 (by simp)
  replace q1 := hg2.cell q1 (by simp)
  have HG2 := Lib.hid hg2
  clear hg2
  by_cases h0 : 0 ≤ s
  · obtain ⟨sj, rfl⟩ := Int.eq_ofNat_of_zero_le h0
    have hsT : sj < p.types.length := by omega
    have HO := Lib.hid (usersOf_in HV.out (by rw [← HL.out]; exact hi) HPA.out HSS.out)
    have HKS := Lib.hid (kind_set p)
    rw [← HL.out] at HKS
    go_wp2_with fail
    refine (l3Set_any q.op q.x q.y q.n _ _).mono ?_
    rw [HSS.out]
    rintro e w3 ⟨rfl, hg3⟩
    have HG3 := Lib.hid (HG2.out.trans0 hg3)
    replace q0 := hg3.cell q0 (by simp)
    replace q1 := hg3.cell q1 (by simp)
    clear hg3 c0 c1 c2 c3 c4
    go_wp2_with fail
    refine (l10Flow_any p 1 L.length setV at' ab ct cb _ ((hT.gr0 hG1).gr0 HG3.out) ((hB.gr0 hG1).gr0 HG3.out) HV.out HKS.out).mono ?_
    rintro e w4 ⟨ao, c4, A, C, G, rfl, hT4, hg4⟩
    rw [← HL.out] at hT4 ⊢
    have HG4 := Lib.hid (HG3.out.trans0 hg4)
    have HT4 := Lib.hid hT4
    have HQ0 := Lib.hid (hg4.cell q0 (by simp))
    have HTY := Lib.hid ((hT.gr0 hG1).gr0 (HG3.out.trans0 hg4))
    have hE4 : w4.heap[w.heap.size + 1]? = some (.cells #[] 3 (0, 0)) := ((HG3.out.trans0 hg4).block _ (lt_of_block hE) (by simp)).trans hE
    have hC0 : Coll w4 w.heap.size w4.heap.size (fun k => usL p.types L k sj && trkB p setV k sj i) 0 (some ⟨w.heap.size + 1, 0, none⟩) 0 0 := Coll.empty (hG1.trans0 HG4.out).size _ (by omega) hE4
    have HGW := Lib.hid (hG1.trans0 HG4.out)
    clear hT4 hg4 hE hE4 q0 q1 hT hB hG1
    go_wp2_with fail
    go_loopw [5, 9] (fun v s wr => ∃ (k m cap : Nat) (ap : Option Addr), k ≤ L.length ∧ s = .int .i64 k ∧ v = .slice ap m cap ∧ Coll wr w.heap.size w4.heap.size (fun k => usL p.types L k sj && trkB p setV k sj i) k ap m cap ∧ Gr w4 wr none) (fun _ s _ => L.length - (intOf s).toNat)
    case atStart => exact ⟨0, 0, 0, _, Nat.zero_le _, rfl, rfl, hC0, Gr.refl _ _⟩
    case round =>
      obtain ⟨k, m, cap, ap, hk, rfl, rfl, hCo, hg⟩ := hrel
      have hnk := hCo.le
      have HCo := Lib.hid hCo
      have HG := Lib.hid hg
      clear hCo hC0
      by_cases hkL : k < L.length
      · obtain ⟨b5, po5, e5, an5, cn5, d0, d1, d2, d3, d4, -, -⟩ := (HR.out.gr (HG4.out.trans0 hg)) k hkL
        cases e5
        obtain ⟨r, er⟩ : ∃ r, L[k] = r := ⟨_, rfl⟩
        rw [er] at d0 d1 d2 d3 d4
        have HRA := Lib.hid ((ptAt_get hkL).trans er)
        obtain ⟨n5, hn5⟩ : ∃ n5, r.next.length = n5 := ⟨_, rfl⟩
        rw [hn5] at d4
        have q0 := hg.cell HQ0.out (by simp)
        obtain ⟨bh, oh, rfl, h0'⟩ := (HT4.out.gr hg).head hkL
        have hsg : sj < (G k).length := by rw [(HT4.out.2 k hkL).1]; exact hsT
        obtain ⟨bt, ot, eA, t0⟩ := tab_cell ((HT4.out.gr hg).2 k hkL).2.1 hsg
        rw [eA] at h0'
        have f0 := (((HT4.out.gr hg).2 k hkL).2.2 sj hsg).cell hi
        obtain ⟨gg, hgg⟩ : ∃ gg, (G k)[sj] = gg := ⟨_, rfl⟩
        rw [hgg] at t0 f0
        obtain ⟨UU, hUU⟩ : ∃ UU, useK p.types[sj] r.op r.x r.y sj = UU := ⟨_, rfl⟩
        have hub := use_ne (op := r.op) (x := r.x) (y := r.y) hsT
        rw [hUU] at hub
        have HU := Lib.hid hUU
        have HUL := Lib.hid (show usL p.types L k sj = (UU != 0) by unfold usL; rw [HRA.out, ← hub])
        obtain ⟨fb, hfb⟩ : ∃ fb, trkB p setV k sj i = fb := ⟨_, rfl⟩
        rw [hfb] at f0
        have HN := Lib.hid (show (usL p.types L k sj && trkB p setV k sj i) = (fb && (UU != 0)) by rw [HUL.out, hfb, Bool.and_comm])
        obtain ⟨ub, hubb⟩ : ∃ ub, (UU != 0) = ub := ⟨_, rfl⟩
        rw [hubb] at HN
        have HGU := Lib.hid hg
        clear er hn5 hgg hUU hub hfb hg eA
        go_upto_region 10 with fail
        go_cut [65] (fun s wx => s = .bool (fb && ub) ∧ Gr wr wx none)
        case first =>
          cases fb with
          | false =>
--<RA
            refine wp_region_held_drew (S := fun w' => Gr wr w' none) (by kernel_rfl) ((Gr.refl _ _).drew) (fun hHeld => ?_)
            refine wpAnyH_take (i := 0) (v := ?_) rfl (by kernel_rfl) (by kernel_rfl) (by kernel_rfl) (fun _ _ _ h => h) (Or.inl ⟨by rfl, ?_⟩) hHeld ?_
            rotate_left
            focus (intro wq hq; clear hq; go_simp; try with_reducible rfl)
            simp only [Act.put, List.getElem_toArray, List.getElem_cons_zero, List.setIfInBounds_toArray, List.set_cons_zero, List.set_cons_succ]
            refine wpAnyH_take (i := 1) (v := ?_) rfl (by kernel_rfl) (by kernel_rfl) (by kernel_rfl) (fun _ _ _ h => h) (Or.inl ⟨by rfl, ?_⟩) hHeld ?_
            rotate_left
            focus (intro wq hq; clear hq; go_simp; try with_reducible rfl)
            simp only [Act.put, List.getElem_toArray, List.getElem_cons_succ, List.getElem_cons_zero, List.setIfInBounds_toArray, List.set_cons_zero, List.set_cons_succ]
            refine wpAnyH_take (i := 2) (v := ?_) rfl (by kernel_rfl) (by kernel_rfl) (by kernel_rfl) (fun _ _ _ h => h) (Or.inl ⟨by rfl, ?_⟩) hHeld ?_
            rotate_left
            focus (intro wq hq; clear hq; go_simp; try with_reducible rfl)
            simp only [Act.put, List.getElem_toArray, List.getElem_cons_succ, List.getElem_cons_zero, List.setIfInBounds_toArray, List.set_cons_zero, List.set_cons_succ]
            refine wpAnyH_take (i := 3) (v := ?_) rfl (by kernel_rfl) (by kernel_rfl) (by kernel_rfl) (fun _ _ _ h => h) (Or.inl ⟨by rfl, ?_⟩) hHeld ?_
            rotate_left
            focus (intro wq hq; have k0 := hq.cell h0' (by simp); go_simp; try with_reducible rfl)
            simp only [Act.put, List.getElem_toArray, List.getElem_cons_succ, List.getElem_cons_zero, List.setIfInBounds_toArray, List.set_cons_zero, List.set_cons_succ]
            refine wpAnyH_take (i := 4) (v := ?_) rfl (by kernel_rfl) (by kernel_rfl) (by kernel_rfl) (fun _ _ _ h => h) (Or.inl ⟨by rfl, ?_⟩) hHeld ?_
            rotate_left
            focus (intro wq hq; clear hq; go_simp; try with_reducible rfl)
            simp only [Act.put, List.getElem_toArray, List.getElem_cons_succ, List.getElem_cons_zero, List.setIfInBounds_toArray, List.set_cons_zero, List.set_cons_succ]
            refine wpAnyH_take (i := 5) (v := ?_) rfl (by kernel_rfl) (by kernel_rfl) (by kernel_rfl) (fun _ _ _ h => h) (Or.inl ⟨by rfl, ?_⟩) hHeld ?_
            rotate_left
            focus (intro wq hq; clear hq; go_simp; try with_reducible rfl)
            simp only [Act.put, List.getElem_toArray, List.getElem_cons_succ, List.getElem_cons_zero, List.setIfInBounds_toArray, List.set_cons_zero, List.set_cons_succ]
            refine wpAnyH_take (i := 6) (v := ?_) rfl (by kernel_rfl) (by kernel_rfl) (by kernel_rfl) (fun _ _ _ h => h) (Or.inl ⟨by rfl, ?_⟩) hHeld ?_
            rotate_left
            focus (intro wq hq; have k0 := hq.cell t0 (by simp); go_simp; try with_reducible rfl)
            simp only [Act.put, List.getElem_toArray, List.getElem_cons_succ, List.getElem_cons_zero, List.setIfInBounds_toArray, List.set_cons_zero, List.set_cons_succ]
            refine wpAnyH_take (i := 7) (v := ?_) rfl (by kernel_rfl) (by kernel_rfl) (by kernel_rfl) (fun _ _ _ h => h) (Or.inl ⟨by rfl, ?_⟩) hHeld ?_
            rotate_left
            focus (intro wq hq; clear hq; go_simp; try with_reducible rfl)
            simp only [Act.put, List.getElem_toArray, List.getElem_cons_succ, List.getElem_cons_zero, List.setIfInBounds_toArray, List.set_cons_zero, List.set_cons_succ]
            refine wpAnyH_take (i := 8) (v := ?_) rfl (by kernel_rfl) (by kernel_rfl) (by kernel_rfl) (fun _ _ _ h => h) (Or.inl ⟨by rfl, ?_⟩) hHeld ?_
            rotate_left
            focus (intro wq hq; clear hq; go_simp; try with_reducible rfl)
            simp only [Act.put, List.getElem_toArray, List.getElem_cons_succ, List.getElem_cons_zero, List.setIfInBounds_toArray, List.set_cons_zero, List.set_cons_succ]
            refine wpAnyH_take (i := 9) (v := ?_) rfl (by kernel_rfl) (by kernel_rfl) (by kernel_rfl) (fun _ _ _ h => h) (Or.inl ⟨by rfl, ?_⟩) hHeld ?_
            rotate_left
            focus (intro wq hq; have k0 := hq.cell f0 (by simp); go_simp; try with_reducible rfl)
            simp only [Act.put, List.getElem_toArray, List.getElem_cons_succ, List.getElem_cons_zero, List.setIfInBounds_toArray, List.set_cons_zero, List.set_cons_succ]
            refine wpAnyH_take (i := 10) (v := ?_) rfl (by kernel_rfl) (by kernel_rfl) (by kernel_rfl) (fun _ _ _ h => h) (Or.inl ⟨by rfl, ?_⟩) hHeld ?_
            rotate_left
            focus (intro wq hq; clear hq; go_simp; try with_reducible rfl)
            simp only [Act.put, List.getElem_toArray, List.getElem_cons_succ, List.getElem_cons_zero, List.setIfInBounds_toArray, List.set_cons_zero, List.set_cons_succ]
            refine wpAnyH_take (i := 11) (v := _) rfl (by kernel_rfl) (by kernel_rfl) (by kernel_rfl) (fun _ _ _ h => h) (Or.inr ⟨by rfl, rfl⟩) hHeld ?_
            simp only [Act.put, List.getElem_toArray, List.getElem_cons_succ, List.getElem_cons_zero, List.setIfInBounds_toArray, List.set_cons_zero, List.set_cons_succ]
            refine wpAnyH_take (i := 12) (v := _) rfl (by kernel_rfl) (by kernel_rfl) (by kernel_rfl) (fun _ _ _ h => h) (Or.inr ⟨by rfl, rfl⟩) hHeld ?_
            simp only [Act.put, List.getElem_toArray, List.getElem_cons_succ, List.getElem_cons_zero, List.setIfInBounds_toArray, List.set_cons_zero, List.set_cons_succ]
            refine wpAnyH_take (i := 13) (v := _) rfl (by kernel_rfl) (by kernel_rfl) (by kernel_rfl) (fun _ _ _ h => h) (Or.inr ⟨by rfl, rfl⟩) hHeld ?_
            simp only [Act.put, List.getElem_toArray, List.getElem_cons_succ, List.getElem_cons_zero, List.setIfInBounds_toArray, List.set_cons_zero, List.set_cons_succ]
            refine wpAnyH_take (i := 14) (v := _) rfl (by kernel_rfl) (by kernel_rfl) (by kernel_rfl) (fun _ _ _ h => h) (Or.inr ⟨by rfl, rfl⟩) hHeld ?_
            simp only [Act.put, List.getElem_toArray, List.getElem_cons_succ, List.getElem_cons_zero, List.setIfInBounds_toArray, List.set_cons_zero, List.set_cons_succ]
            refine wpAnyH_take (i := 15) (v := _) rfl (by kernel_rfl) (by kernel_rfl) (by kernel_rfl) (fun _ _ _ h => h) (Or.inr ⟨by rfl, rfl⟩) hHeld ?_
            simp only [Act.put, List.getElem_toArray, List.getElem_cons_succ, List.getElem_cons_zero, List.setIfInBounds_toArray, List.set_cons_zero, List.set_cons_succ]
            refine wpAnyH_take (i := 16) (v := _) rfl (by kernel_rfl) (by kernel_rfl) (by kernel_rfl) (fun _ _ _ h => h) (Or.inr ⟨by rfl, rfl⟩) hHeld ?_
            simp only [Act.put, List.getElem_toArray, List.getElem_cons_succ, List.getElem_cons_zero, List.setIfInBounds_toArray, List.set_cons_zero, List.set_cons_succ]
            refine wpAnyH_take (i := 17) (v := _) rfl (by kernel_rfl) (by kernel_rfl) (by kernel_rfl) (fun _ _ _ h => h) (Or.inr ⟨by rfl, rfl⟩) hHeld ?_
            simp only [Act.put, List.getElem_toArray, List.getElem_cons_succ, List.getElem_cons_zero, List.setIfInBounds_toArray, List.set_cons_zero, List.set_cons_succ]
            refine wpAnyH_take (i := 18) (v := _) rfl (by kernel_rfl) (by kernel_rfl) (by kernel_rfl) (fun _ _ _ h => h) (Or.inr ⟨by rfl, rfl⟩) hHeld ?_
            simp only [Act.put, List.getElem_toArray, List.getElem_cons_succ, List.getElem_cons_zero, List.setIfInBounds_toArray, List.set_cons_zero, List.set_cons_succ]
            refine wpAnyH_take (i := 19) (v := _) rfl (by kernel_rfl) (by kernel_rfl) (by kernel_rfl) (fun _ _ _ h => h) (Or.inr ⟨by rfl, rfl⟩) hHeld ?_
            simp only [Act.put, List.getElem_toArray, List.getElem_cons_succ, List.getElem_cons_zero, List.setIfInBounds_toArray, List.set_cons_zero, List.set_cons_succ]
            refine wpAnyH_take (i := 20) (v := ?_) rfl (by kernel_rfl) (by kernel_rfl) (by kernel_rfl) (fun _ _ _ h => h) (Or.inl ⟨by rfl, ?_⟩) hHeld ?_
            rotate_left
            focus (intro wq hq; clear hq; go_simp; try with_reducible rfl)
            simp only [Act.put, List.getElem_toArray, List.getElem_cons_succ, List.getElem_cons_zero, List.setIfInBounds_toArray, List.set_cons_zero, List.set_cons_succ]
            refine wpAnyH_done (by kernel_rfl) ?_ _
            go_wp2_with fail
            go_meet
            exact ⟨rfl, hHeld⟩
--RA>
          | true =>
--<RB
            refine wp_region_held_drew (S := fun w' => Gr wr w' none) (by kernel_rfl) ((Gr.refl _ _).drew) (fun hHeld => ?_)
            refine wpAnyH_take (i := 0) (v := ?_) rfl (by kernel_rfl) (by kernel_rfl) (by kernel_rfl) (fun _ _ _ h => h) (Or.inl ⟨by rfl, ?_⟩) hHeld ?_
            rotate_left
            focus (intro wq hq; clear hq; go_simp; try with_reducible rfl)
            simp only [Act.put, List.getElem_toArray, List.getElem_cons_zero, List.setIfInBounds_toArray, List.set_cons_zero, List.set_cons_succ]
            refine wpAnyH_take (i := 1) (v := ?_) rfl (by kernel_rfl) (by kernel_rfl) (by kernel_rfl) (fun _ _ _ h => h) (Or.inl ⟨by rfl, ?_⟩) hHeld ?_
            rotate_left
            focus (intro wq hq; clear hq; go_simp; try with_reducible rfl)
            simp only [Act.put, List.getElem_toArray, List.getElem_cons_succ, List.getElem_cons_zero, List.setIfInBounds_toArray, List.set_cons_zero, List.set_cons_succ]
            refine wpAnyH_take (i := 2) (v := ?_) rfl (by kernel_rfl) (by kernel_rfl) (by kernel_rfl) (fun _ _ _ h => h) (Or.inl ⟨by rfl, ?_⟩) hHeld ?_
            rotate_left
            focus (intro wq hq; clear hq; go_simp; try with_reducible rfl)
            simp only [Act.put, List.getElem_toArray, List.getElem_cons_succ, List.getElem_cons_zero, List.setIfInBounds_toArray, List.set_cons_zero, List.set_cons_succ]
            refine wpAnyH_take (i := 3) (v := ?_) rfl (by kernel_rfl) (by kernel_rfl) (by kernel_rfl) (fun _ _ _ h => h) (Or.inl ⟨by rfl, ?_⟩) hHeld ?_
            rotate_left
            focus (intro wq hq; have k0 := hq.cell h0' (by simp); go_simp; try with_reducible rfl)
            simp only [Act.put, List.getElem_toArray, List.getElem_cons_succ, List.getElem_cons_zero, List.setIfInBounds_toArray, List.set_cons_zero, List.set_cons_succ]
            refine wpAnyH_take (i := 4) (v := ?_) rfl (by kernel_rfl) (by kernel_rfl) (by kernel_rfl) (fun _ _ _ h => h) (Or.inl ⟨by rfl, ?_⟩) hHeld ?_
            rotate_left
            focus (intro wq hq; clear hq; go_simp; try with_reducible rfl)
            simp only [Act.put, List.getElem_toArray, List.getElem_cons_succ, List.getElem_cons_zero, List.setIfInBounds_toArray, List.set_cons_zero, List.set_cons_succ]
            refine wpAnyH_take (i := 5) (v := ?_) rfl (by kernel_rfl) (by kernel_rfl) (by kernel_rfl) (fun _ _ _ h => h) (Or.inl ⟨by rfl, ?_⟩) hHeld ?_
            rotate_left
            focus (intro wq hq; clear hq; go_simp; try with_reducible rfl)
            simp only [Act.put, List.getElem_toArray, List.getElem_cons_succ, List.getElem_cons_zero, List.setIfInBounds_toArray, List.set_cons_zero, List.set_cons_succ]
            refine wpAnyH_take (i := 6) (v := ?_) rfl (by kernel_rfl) (by kernel_rfl) (by kernel_rfl) (fun _ _ _ h => h) (Or.inl ⟨by rfl, ?_⟩) hHeld ?_
            rotate_left
            focus (intro wq hq; have k0 := hq.cell t0 (by simp); go_simp; try with_reducible rfl)
            simp only [Act.put, List.getElem_toArray, List.getElem_cons_succ, List.getElem_cons_zero, List.setIfInBounds_toArray, List.set_cons_zero, List.set_cons_succ]
            refine wpAnyH_take (i := 7) (v := ?_) rfl (by kernel_rfl) (by kernel_rfl) (by kernel_rfl) (fun _ _ _ h => h) (Or.inl ⟨by rfl, ?_⟩) hHeld ?_
            rotate_left
            focus (intro wq hq; clear hq; go_simp; try with_reducible rfl)
            simp only [Act.put, List.getElem_toArray, List.getElem_cons_succ, List.getElem_cons_zero, List.setIfInBounds_toArray, List.set_cons_zero, List.set_cons_succ]
            refine wpAnyH_take (i := 8) (v := ?_) rfl (by kernel_rfl) (by kernel_rfl) (by kernel_rfl) (fun _ _ _ h => h) (Or.inl ⟨by rfl, ?_⟩) hHeld ?_
            rotate_left
            focus (intro wq hq; clear hq; go_simp; try with_reducible rfl)
            simp only [Act.put, List.getElem_toArray, List.getElem_cons_succ, List.getElem_cons_zero, List.setIfInBounds_toArray, List.set_cons_zero, List.set_cons_succ]
            refine wpAnyH_take (i := 9) (v := ?_) rfl (by kernel_rfl) (by kernel_rfl) (by kernel_rfl) (fun _ _ _ h => h) (Or.inl ⟨by rfl, ?_⟩) hHeld ?_
            rotate_left
            focus (intro wq hq; have k0 := hq.cell f0 (by simp); go_simp; try with_reducible rfl)
            simp only [Act.put, List.getElem_toArray, List.getElem_cons_succ, List.getElem_cons_zero, List.setIfInBounds_toArray, List.set_cons_zero, List.set_cons_succ]
            refine wpAnyH_take (i := 10) (v := ?_) rfl (by kernel_rfl) (by kernel_rfl) (by kernel_rfl) (fun _ _ _ h => h) (Or.inl ⟨by rfl, ?_⟩) hHeld ?_
            rotate_left
            focus (intro wq hq; clear hq; go_simp; try with_reducible rfl)
            simp only [Act.put, List.getElem_toArray, List.getElem_cons_succ, List.getElem_cons_zero, List.setIfInBounds_toArray, List.set_cons_zero, List.set_cons_succ]
            refine wpAnyH_take (i := 11) (v := ?_) rfl (by kernel_rfl) (by kernel_rfl) (by kernel_rfl) (fun _ _ _ h => h) (Or.inl ⟨by rfl, ?_⟩) hHeld ?_
            rotate_left
            focus (intro wq hq; clear hq; go_simp; try with_reducible rfl)
            simp only [Act.put, List.getElem_toArray, List.getElem_cons_succ, List.getElem_cons_zero, List.setIfInBounds_toArray, List.set_cons_zero, List.set_cons_succ]
            refine wpAnyH_take (i := 12) (v := ?_) rfl (by kernel_rfl) (by kernel_rfl) (by kernel_rfl) (fun _ _ _ h => h) (Or.inl ⟨by rfl, ?_⟩) hHeld ?_
            rotate_left
            focus (intro wq hq; have k0 := hq.cell q0 (by simp); go_simp; try with_reducible rfl)
            simp only [Act.put, List.getElem_toArray, List.getElem_cons_succ, List.getElem_cons_zero, List.setIfInBounds_toArray, List.set_cons_zero, List.set_cons_succ]
            refine wpAnyH_take (i := 13) (v := ?_) rfl (by kernel_rfl) (by kernel_rfl) (by kernel_rfl) (fun _ _ _ h => h) (Or.inl ⟨by rfl, ?_⟩) hHeld ?_
            rotate_left
            focus (intro wq hq; clear hq; go_simp; try with_reducible rfl)
            simp only [Act.put, List.getElem_toArray, List.getElem_cons_succ, List.getElem_cons_zero, List.setIfInBounds_toArray, List.set_cons_zero, List.set_cons_succ]
            refine wpAnyH_take (i := 14) (v := ?_) rfl (by kernel_rfl) (by kernel_rfl) (by kernel_rfl) (fun _ _ _ h => h) (Or.inl ⟨by rfl, ?_⟩) hHeld ?_
            rotate_left
            focus (intro wq hq; clear hq; go_simp; try with_reducible rfl)
            simp only [Act.put, List.getElem_toArray, List.getElem_cons_succ, List.getElem_cons_zero, List.setIfInBounds_toArray, List.set_cons_zero, List.set_cons_succ]
            refine wpAnyH_take (i := 15) (v := ?_) rfl (by kernel_rfl) (by kernel_rfl) (by kernel_rfl) (fun _ _ _ h => h) (Or.inl ⟨by rfl, ?_⟩) hHeld ?_
            rotate_left
            focus (intro wq hq; clear hq; go_simp; try with_reducible rfl)
            simp only [Act.put, List.getElem_toArray, List.getElem_cons_succ, List.getElem_cons_zero, List.setIfInBounds_toArray, List.set_cons_zero, List.set_cons_succ]
            refine wpAnyH_take (i := 16) (v := ?_) rfl (by kernel_rfl) (by kernel_rfl) (by kernel_rfl) (fun _ _ _ h => h) (Or.inl ⟨by rfl, ?_⟩) hHeld ?_
            rotate_left
            focus (intro wq hq; have k0 := hq.cell d0 (by simp); have k1 := hq.cell d1 (by simp); have k2 := hq.cell d2 (by simp); have k3 := hq.cell d3 (by simp); have k4 := hq.cell d4 (by simp); go_simp; try with_reducible rfl)
            simp only [Act.put, List.getElem_toArray, List.getElem_cons_succ, List.getElem_cons_zero, List.setIfInBounds_toArray, List.set_cons_zero, List.set_cons_succ]
            refine wpAnyH_take (i := 17) (v := ?_) rfl (by kernel_rfl) (by kernel_rfl) (by kernel_rfl) (fun _ _ _ h => h) (Or.inl ⟨by rfl, ?_⟩) hHeld ?_
            rotate_left
            focus (intro wq hq; clear hq; go_simp; try with_reducible rfl)
            simp only [Act.put, List.getElem_toArray, List.getElem_cons_succ, List.getElem_cons_zero, List.setIfInBounds_toArray, List.set_cons_zero, List.set_cons_succ]
            refine wpAnyH_ready (rs := [18]) (by kernel_rfl) (by simp) ?_
            refine AllReadyH.cons rfl (fun K hK => ?_) AllReadyH.nil
            go_simp
            refine (l3Use_any p.types at' ct r.op r.x r.y r.n (.slice an5 n5 cn5) sj hsT _ (HTY.out.gr0 (HGU.out.trans0 hHeld)) (by omega)).mono ?_
            rw [HU.out]
            rintro e w5 ⟨rfl, hg5⟩
            try dsimp only
            refine hK.out _ _ (hHeld.trans0 hg5) (fun hHeld => ?_)
            clear hK K
            try simp only [Act.put, List.getElem_toArray, List.getElem_cons_succ, List.getElem_cons_zero, List.setIfInBounds_toArray, List.set_cons_zero, List.set_cons_succ]
            refine wpAnyH_take (i := 19) (v := ?_) rfl (by kernel_rfl) (by kernel_rfl) (by kernel_rfl) (fun _ _ _ h => h) (Or.inl ⟨by rfl, ?_⟩) hHeld ?_
            rotate_left
            focus (intro wq hq; clear hq; go_simp; try with_reducible rfl)
            simp only [Act.put, List.getElem_toArray, List.getElem_cons_succ, List.getElem_cons_zero, List.setIfInBounds_toArray, List.set_cons_zero, List.set_cons_succ]
            refine wpAnyH_take (i := 20) (v := ?_) rfl (by kernel_rfl) (by kernel_rfl) (by kernel_rfl) (fun _ _ _ h => h) (Or.inl ⟨by rfl, ?_⟩) hHeld ?_
            rotate_left
            focus (intro wq hq; clear hq; go_simp; try with_reducible rfl)
            simp only [Act.put, List.getElem_toArray, List.getElem_cons_succ, List.getElem_cons_zero, List.setIfInBounds_toArray, List.set_cons_zero, List.set_cons_succ]
            refine wpAnyH_done (by kernel_rfl) ?_ _
            go_wp2_with fail
            go_meet
            exact ⟨rfl, hHeld⟩
--RB>
        case rest =>
          rename World => wx
          obtain ⟨rfl, hgx⟩ := hcut
          have HCX := Lib.hid (HCo.out.gr hgx)
          have HGX := Lib.hid (HGU.out.trans0 hgx)
          obtain ⟨nd, hnd⟩ : ∃ nd, (fb && ub) = nd := ⟨_, rfl⟩
          rw [hnd] at HN ⊢
          clear hnd hgx d0 d1 d2 d3 d4 q0 h0' t0 f0 hubb
          cases nd with
          | true =>
            go_wp2_with (at_builtin; refine app_c wx _ rfl (.tmp 66) (.tmp 68) rfl w.heap.size w4.heap.size ap cap m _ k rfl HCX.out ((Gr.refl _ _).alloc _) HN.out wx.heap.size 1 rfl (cell_of_row _ _ _ _ _ _ (heap1_0 _ _)) (by omega) HGX.out.size ?_; rintro g' cap' w6 hC6 hg6)
            go_roundw
            case rel => exact ⟨k + 1, m + 1, cap', _, by omega, by go_num, rfl, hC6, hg6 _ (HGX.out.alloc _) (Nat.le_refl _)⟩
            case measure => simp [intOf]; omega
          | false =>
            go_wp2_with fail
            go_roundw
            case rel => exact ⟨k + 1, m, cap, ap, by omega, by go_num, rfl, HCX.out.no HN.out, HGX.out⟩
            case measure => simp [intOf]; omega
      · obtain rfl : k = L.length := by omega
        go_wp2_with fail
        go_ret
        exact HCo.out.hand (by rw [HO.out, ← HL.out]) (HGW.out.trans0 hg)
  · have HO := Lib.hid (usersOf_out2 HPA.out (by rw [HSS.out]; exact h0))
    go_wp2_with fail
    go_ret
    rw [HO.out]
    exact HNIL.out _ HG2.out
end Go.Proofs.Ytadlnjglpigjmaa

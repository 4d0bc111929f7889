/- Walks of LiveAfter, NeedsOf, TakesOf of the reference. -/
import Derived.Test.YtdnhinkjmjpnnaaDE

namespace Go.Proofs.Ytdnhinkjmjpnnaa

open Go.RowKit

set_option maxRecDepth 100000 in
set_option maxHeartbeats 1000000 in
theorem l3NumbersL_any (gf n c : Nat) (F : Nat → Bool) (w : World) (hF : Row w gf n F) (hn : n ≤ 1048576) :
    Calls Try.prog 97 #[.slice (some ⟨gf, 0, none⟩) n c] w (HandI (coll F n) w) := by
  have HF := Lib.hid (fun k (hk : k < n) => hF.cell hk)
  clear hF
  have hG1 : Gr w (w.alloc (.cells #[] 3)) none := (Gr.refl _ _).alloc _
  have hE : (w.alloc (.cells #[] 3)).heap[w.heap.size]? = some (.cells #[] 3 (0, 0)) := heap1_0 _ _
  go_enter Try.func97, Try.ntmps97
  go_wp2_with fail
  generalize w.alloc (.cells #[] 3) = w1 at *
  have hC0 : Coll w1 w.heap.size w1.heap.size F 0 (some ⟨w.heap.size, 0, none⟩) 0 0 := Coll.empty hG1.size _ (Nat.le_refl _) hE
  go_loopw [3, 4] (fun v i wr => ∃ (k m cap : Nat) (ao : Option Addr), k ≤ n ∧ i = .int .i64 k ∧ v = .slice ao m cap ∧ Coll wr w.heap.size w1.heap.size F k ao m cap ∧ Gr w1 wr none) (fun _ i _ => n - (intOf i).toNat)
  case atStart => exact ⟨0, 0, 0, _, Nat.zero_le _, rfl, rfl, hC0, Gr.refl _ _⟩
  case round =>
    obtain ⟨k, m, cap, ao, hkl, rfl, rfl, hCo, hgr⟩ := hrel
    have hnk := hCo.le
    have HCo := Lib.hid hCo
    clear hCo hC0
    by_cases hlt : k < n
    · have hck := (hG1.trans0 hgr).cell (HF.out k hlt) (by simp)
      cases hd : F k with
      | true =>
        have HD := Lib.hid hd
        rw [hd] at hck
        clear hd
        go_wp2_with (at_builtin; refine app_c wr _ rfl (.tmp 16) (.tmp 18) rfl w.heap.size w1.heap.size ao cap m _ k rfl HCo.out ((Gr.refl _ _).alloc _) HD.out wr.heap.size 1 rfl (cell_of_row _ _ _ _ _ _ (heap1_0 _ _)) (by omega) hgr.size ?_; rintro g cap' w4 hC4 hg4)
        go_roundw
        case rel => exact ⟨k + 1, m + 1, cap', _, by omega, by go_num, rfl, hC4, hg4 _ (hgr.alloc _) (Nat.le_refl _)⟩
        case measure => simp [intOf]; omega
      | false =>
        have HD := Lib.hid hd
        rw [hd] at hck
        clear hd
        go_wp2_with fail
        go_roundw
        case rel => exact ⟨k + 1, m, cap, ao, by omega, by go_num, rfl, HCo.out.no HD.out, hgr⟩
        case measure => simp [intOf]; omega
    · obtain rfl : k = n := by omega
      go_wp2_with fail
      go_ret
      exact HCo.out.hand rfl (hG1.trans0 hgr)
theorem coll_none {f : Nat → Bool} (h : ∀ k, f k = false) : ∀ n, coll f n = []
  | 0 => rfl
  | n + 1 => by rw [coll_no (h n), coll_none h n]
set_option maxRecDepth 100000 in
set_option maxHeartbeats 1000000 in
theorem specLiveAfter_any (p : Pr) (a : Int) (at' ab : Option Addr) (ct cb : Nat) (w : World) (hT : InAt w Any p.types at') (hB : SlAt w Any p.body ab) (hs : p.types.length ≤ 1048576) (hc : St.count p.body ≤ 1048576) :
    Calls Try.prog 51 #[.agg #[.slice at' p.types.length ct, .slice ab p.body.length cb], .int .i64 a] w (HandI (liveOf p a) w) := by
  have hlc := count_length p.body
  have hg1 : ∀ o, Gr w (w.alloc o) none := fun o => (Gr.refl _ _).alloc _
  by_cases h0 : a < 0
  · have HO := Lib.hid (liveOf_out (p := p) (a := a) (by omega))
    go_enter Try.func51, Try.ntmps51
    go_wp2_with fail
    go_ret
    rw [HO.out]
    exact Lst.hand (Lst.empty (base := w.heap.size) (Nat.le_refl _) (by omega) (heap2_1 _ _ _)) rfl ((hg1 _).alloc _)
  have h0' : 0 ≤ a := by omega
  clear h0
  go_enter Try.func51, Try.ntmps51
  go_wp2_with fail
  refine (specPointsOf_any p at' ab ct cb _ (hT.gr0 (hg1 _)) (hB.gr0 (hg1 _)) hs hc).mono ?_
  rintro e w1 ⟨M, am, c, hM, rfl, -, hg⟩
  have hG1 : Gr w w1 none := (hg1 _).trans0 hg
  have q0 : w1.cell? ⟨w.heap.size, 0, none⟩ = some (.slice at' p.types.length ct) := hg.cell (p := ⟨w.heap.size, 0, none⟩) (cell?_new2 _ _).1 (by simp)
  have q1 : w1.cell? ⟨w.heap.size, 1, none⟩ = some (.slice ab p.body.length cb) := hg.cell (p := ⟨w.heap.size, 1, none⟩) (cell?_new2 _ _).2 (by simp)
  have HM := Lib.hid hM
  clear hg hM
  by_cases h1 : (M.length : Int) ≤ a
  · have HO := Lib.hid (liveOf_out (p := p) (a := a) (by rw [← HM.out]; omega))
    go_wp2_with fail
    go_ret
    rw [HO.out]
    exact Lst.hand (Lst.empty hG1.size hG1.size (heap1_0 _ _)) rfl (hG1.alloc _)
  · obtain ⟨k, rfl⟩ := Int.eq_ofNat_of_zero_le h0'
    have hk : k < (ptsOf p).length := by rw [← HM.out]; omega
    have hv : validP p = true := valid_pos (by omega)
    have HO := Lib.hid (liveOf_in hk)
    have hpp : ptsOf p = pts p := by unfold ptsOf; rw [if_pos hv]
    rw [hpp] at hk
    have hpl := valid_types hv
    have HV := Lib.hid hv
    clear hpp hv
    go_wp2_with fail
    refine (l3Live_any p at' ab ct cb _ (hT.gr0 hG1) (hB.gr0 hG1) HV.out).mono ?_
    rintro e w2 ⟨a2, c2, gs, hgl, rfl, hTb, hF, hg2⟩
    have hkg : k < gs.length := by rw [hgl]; exact hk
    obtain ⟨bt, ot, rfl, t0⟩ := tab_cell hTb hkg
    have HR := Lib.hid (hF k hkg)
    obtain ⟨gk, hgk⟩ : ∃ gk, gs[k] = gk := ⟨_, rfl⟩
    rw [hgk] at t0 HR
    obtain ⟨n, hn⟩ : ∃ n, (pts p).length = n := ⟨_, rfl⟩
    rw [hn] at hk
    have hG2 := hG1.trans0 hg2
    clear hTb hF hgk hgl hkg
    rw [hn]
    clear hn
    go_wp2_with fail
    refine (l3Numbers_any gk p.types.length p.types.length (liveB p k) _ HR.out (by omega)).mono ?_
    rw [← HO.out]
    intro e w4 hh
    have hhh := HandI.aft hh hG2
    obtain ⟨a4, c4, rfl, -⟩ := hh
    have HH := Lib.hid hhh
    clear hhh
    go_wp2_with fail
    go_ret
    exact HH.out
set_option maxRecDepth 100000 in
set_option maxHeartbeats 4000000 in
theorem specNeedsOf_any (p : Pr) (at' ab : Option Addr) (ct cb : Nat) (w : World) (hT : InAt w Any p.types at') (hB : SlAt w Any p.body ab) (hs : p.types.length ≤ 1048576) (hc : St.count p.body ≤ 1048576) :
    Calls Try.prog 49 #[.agg #[.slice at' p.types.length ct, .slice ab p.body.length cb]] w (HandI (needsOf p) w) := by
  have hlc := count_length p.body
  have hg1 : ∀ o o', Gr w ((w.alloc o).alloc o') none := fun o o' => ((Gr.refl _ _).alloc _).alloc _
  have HT := Lib.hid hT
  go_enter Try.func49, Try.ntmps49
  go_wp2_with fail
  refine (validS_any p at' ab ct cb _ (hT.gr0 (hg1 _ _)) (hB.gr0 (hg1 _ _)) hs hc (by omega)).mono ?_
  rw [valid_same]
  rintro e w1 ⟨rfl, hg⟩
  have hG1 : Gr w w1 none := (hg1 _ _).trans0 hg
  have q0 : w1.cell? ⟨w.heap.size, 0, none⟩ = some (.slice at' p.types.length ct) := hg.cell (p := ⟨w.heap.size, 0, none⟩) (cell_of_row _ _ _ _ _ _ (heap2_0 _ _ _)) (by simp)
  have q1 : w1.cell? ⟨w.heap.size, 1, none⟩ = some (.slice ab p.body.length cb) := hg.cell (p := ⟨w.heap.size, 1, none⟩) (cell_of_row _ _ _ _ _ _ (heap2_0 _ _ _)) (by simp)
  have hE : w1.heap[w.heap.size + 1]? = some (.cells #[] 3 (0, 0)) := (hg.block _ (by simp) (by simp)).trans (heap2_1 _ _ _)
  clear hg
  cases hv : validP p with
  | false =>
    have HO := Lib.hid (needsOf_out hv)
    clear hv
    go_wp2_with fail
    go_ret
    rw [HO.out]
    exact Lst.hand (Lst.empty (Nat.le_refl _) (by omega) hE) rfl hG1
  | true =>
    have hcnt := valid_count hv
    have hpl := valid_types hv
    have hml : (pts p).length ≤ 61 := pts_len hv
    have hm0 := pts_pos' p
    have HO := Lib.hid (needsOf_in hv)
    have HV := Lib.hid hv
    clear hv
    go_wp2_with fail
    refine (l2Points_any p at' ab ct cb _ (hB.gr0 hG1) (by omega) (by unfold maxLen; omega)).mono ?_
    rintro e w2 ⟨L, am, c, hM, rfl, hown, hg2⟩
    have hG2 := hG1.trans0 hg2
    have HM := Lib.hid hM
    have HR := Lib.hid hown.read
    rw [← hM] at hml hm0
    replace q0 := hg2.cell q0 (by simp)
    replace q1 := hg2.cell q1 (by simp)
    have hE2 : w2.heap[w.heap.size + 1]? = some (.cells #[] 3 (0, 0)) := (hg2.block _ (lt_of_block hE) (by simp)).trans hE
    clear hM hown hg2 hE
    go_wp2_with fail
    refine (l3Live_any p at' ab ct cb _ (hT.gr0 hG2) (hB.gr0 hG2) HV.out).mono ?_
    rw [← HM.out]
    rintro e w3 ⟨a3, c3, gs, hgl, rfl, hTb, hF, hg3⟩
    have hG3 := hG2.trans0 hg3
    replace q0 := hg3.cell q0 (by simp)
    have hE3 : w3.heap[w.heap.size + 1]? = some (.cells #[] 3 (0, 0)) := (hg3.block _ (lt_of_block hE2) (by simp)).trans hE2
    have hkg : 0 < gs.length := by rw [hgl]; exact hm0
    obtain ⟨bt, ot, rfl, t0⟩ := tab_cell hTb hkg
    have HF := Lib.hid (hF 0 hkg)
    obtain ⟨gk, hgk⟩ : ∃ gk, gs[0] = gk := ⟨_, rfl⟩
    rw [hgk] at t0 HF
    obtain ⟨b, po, rfl, an, cn, d0, d1, d2, d3, d4, -, -⟩ := (HR.out.gr hg3) 0 hm0
    obtain ⟨q, eq⟩ : ∃ q, L[0] = q := ⟨_, rfl⟩
    rw [eq] at d0 d1 d2 d3 d4
    simp only [Nat.zero_mul, Nat.add_zero] at d0 d1 d2 d3 d4
    have HPA := Lib.hid ((ptAt_get hm0).trans eq)
    obtain ⟨nq, hnq⟩ : ∃ nq, q.next.length = nq := ⟨_, rfl⟩
    rw [hnq] at d4
    simp only [Nat.add_zero] at t0
    have HT3 := Lib.hid (HT.out.gr0 hG3)
    have HQ := Lib.hid q0
    have HT0 := Lib.hid t0
    have HD0 := Lib.hid d0
    have HD1 := Lib.hid d1
    have HD2 := Lib.hid d2
    have HD3 := Lib.hid d3
    have HD4 := Lib.hid d4
    have HG3 := Lib.hid hG3
    clear hTb hF hgk hgl hkg eq hnq q1 hg3 hE2 hT hB d0 d1 d2 d3 d4 t0 q0 hG1 hG2
    have hC0 : Coll w3 w.heap.size w3.heap.size (needB p 0) 0 (some ⟨w.heap.size + 1, 0, none⟩) 0 0 := Coll.empty hG3.size _ (by omega) hE3
    clear hE3 hG3
    go_wp2_with fail
    go_loopw [3, 6] (fun v i wr => ∃ (k m cap : Nat) (ao : Option Addr), k ≤ p.types.length ∧ i = .int .i64 k ∧ v = .slice ao m cap ∧ Coll wr w.heap.size w3.heap.size (needB p 0) k ao m cap ∧ Gr w3 wr none) (fun _ i _ => p.types.length - (intOf i).toNat)
    case atStart => exact ⟨0, 0, 0, _, Nat.zero_le _, rfl, rfl, hC0, Gr.refl _ _⟩
    case round =>
      obtain ⟨u, m, cap, ao, hu, rfl, rfl, hCo, hg⟩ := hrel
      have hnk := hCo.le
      have HCo := Lib.hid hCo
      clear hCo hC0
      have q0 := hg.cell HQ.out (by simp)
      by_cases hlt3 : u < p.types.length
      · have t0 := hg.cell HT0.out (by simp)
        have d0 := hg.cell HD0.out (by simp)
        have d1 := hg.cell HD1.out (by simp)
        have d2 := hg.cell HD2.out (by simp)
        have d3 := hg.cell HD3.out (by simp)
        have d4 := hg.cell HD4.out (by simp)
        have f0 := hg.cell (HF.out.cell hlt3) (by simp)
        have HGU := Lib.hid hg
        obtain ⟨UU, hUU⟩ : ∃ UU, useK p.types[u] q.op q.x q.y u = UU := ⟨_, rfl⟩
        have hub := use_ne (op := q.op) (x := q.x) (y := q.y) hlt3
        rw [hUU] at hub
        have HU := Lib.hid hUU
        obtain ⟨SS, hSS⟩ : ∃ SS, setOf q.op q.x = SS := ⟨_, rfl⟩
        have HSS := Lib.hid hSS
        have HNS := Lib.hid (show nsL L 0 u = (SS != (u : Int)) by unfold nsL setsB; rw [HPA.out, hSS, Bool.eq_iff_iff]; simp)
        have HUL := Lib.hid (show usL p.types L 0 u = (UU != 0) by unfold usL; rw [HPA.out, ← hub])
        have HNB := Lib.hid (show needB p 0 u = ((UU != 0) || (liveB p 0 u && (SS != (u : Int)))) by
          rw [needB_at (pts_pos' p), ← HM.out, HUL.out, HNS.out, Bool.and_comm])
        obtain ⟨ub, hubb⟩ : ∃ ub, (UU != 0) = ub := ⟨_, rfl⟩
        obtain ⟨fb, hfb⟩ : ∃ fb, liveB p 0 u = fb := ⟨_, rfl⟩
        rw [hfb] at f0 HNB
        rw [hubb] at HNB
        clear hUU hub hSS hfb hg HNS HUL
        go_upto_region 9 with fail
        go_cut [46] (fun s wx => s = .bool (ub || (fb && (SS != (u : Int)))) ∧ Gr wr wx none)
        case first =>
          cases ub with
          | true =>
--<RA
            refine wp_region_held_drew (S := fun w' => Gr wr w' none) (by kernel_rfl) ((Gr.refl _ _).drew) (fun hHeld => ?_)
            refine wpAnyH_take (i := 0) (v := ?_) rfl (by kernel_rfl) (by kernel_rfl) (by kernel_rfl) (fun _ _ _ h => h) (Or.inl ⟨by rfl, ?_⟩) hHeld ?_
            rotate_left
            focus (intro wq hq; clear hq; go_simp; try with_reducible rfl)
            simp only [Act.put, List.getElem_toArray, List.getElem_cons_zero, List.setIfInBounds_toArray, List.set_cons_zero, List.set_cons_succ]
            refine wpAnyH_take (i := 1) (v := ?_) rfl (by kernel_rfl) (by kernel_rfl) (by kernel_rfl) (fun _ _ _ h => h) (Or.inl ⟨by rfl, ?_⟩) hHeld ?_
            rotate_left
            focus (intro wq hq; have k0 := hq.cell q0 (by simp); go_simp; try with_reducible rfl)
            simp only [Act.put, List.getElem_toArray, List.getElem_cons_succ, List.getElem_cons_zero, List.setIfInBounds_toArray, List.set_cons_zero, List.set_cons_succ]
            refine wpAnyH_take (i := 2) (v := ?_) rfl (by kernel_rfl) (by kernel_rfl) (by kernel_rfl) (fun _ _ _ h => h) (Or.inl ⟨by rfl, ?_⟩) hHeld ?_
            rotate_left
            focus (intro wq hq; clear hq; go_simp; try with_reducible rfl)
            simp only [Act.put, List.getElem_toArray, List.getElem_cons_succ, List.getElem_cons_zero, List.setIfInBounds_toArray, List.set_cons_zero, List.set_cons_succ]
            refine wpAnyH_take (i := 3) (v := ?_) rfl (by kernel_rfl) (by kernel_rfl) (by kernel_rfl) (fun _ _ _ h => h) (Or.inl ⟨by rfl, ?_⟩) hHeld ?_
            rotate_left
            focus (intro wq hq; clear hq; go_simp; try with_reducible rfl)
            simp only [Act.put, List.getElem_toArray, List.getElem_cons_succ, List.getElem_cons_zero, List.setIfInBounds_toArray, List.set_cons_zero, List.set_cons_succ]
            refine wpAnyH_take (i := 4) (v := ?_) rfl (by kernel_rfl) (by kernel_rfl) (by kernel_rfl) (fun _ _ _ h => h) (Or.inl ⟨by rfl, ?_⟩) hHeld ?_
            rotate_left
            focus (intro wq hq; have k0 := hq.cell d0 (by simp); have k1 := hq.cell d1 (by simp); have k2 := hq.cell d2 (by simp); have k3 := hq.cell d3 (by simp); have k4 := hq.cell d4 (by simp); go_simp; try with_reducible rfl)
            simp only [Act.put, List.getElem_toArray, List.getElem_cons_succ, List.getElem_cons_zero, List.setIfInBounds_toArray, List.set_cons_zero, List.set_cons_succ]
            refine wpAnyH_take (i := 5) (v := ?_) rfl (by kernel_rfl) (by kernel_rfl) (by kernel_rfl) (fun _ _ _ h => h) (Or.inl ⟨by rfl, ?_⟩) hHeld ?_
            rotate_left
            focus (intro wq hq; clear hq; go_simp; try with_reducible rfl)
            simp only [Act.put, List.getElem_toArray, List.getElem_cons_succ, List.getElem_cons_zero, List.setIfInBounds_toArray, List.set_cons_zero, List.set_cons_succ]
            refine wpAnyH_ready (rs := [6]) (by kernel_rfl) (by simp) ?_
            refine AllReadyH.cons rfl (fun K hK => ?_) AllReadyH.nil
            go_simp
            refine (l3Use_any p.types at' ct q.op q.x q.y q.n (.slice an nq cn) u hlt3 _ (HT3.out.gr0 (HGU.out.trans0 hHeld)) (by omega)).mono ?_
            rw [HU.out]
            rintro e w4 ⟨rfl, hg4⟩
            try dsimp only
            refine hK.out _ _ (hHeld.trans0 hg4) (fun hHeld => ?_)
            clear hK K
            try simp only [Act.put, List.getElem_toArray, List.getElem_cons_succ, List.getElem_cons_zero, List.setIfInBounds_toArray, List.set_cons_zero, List.set_cons_succ]
            refine wpAnyH_take (i := 7) (v := ?_) rfl (by kernel_rfl) (by kernel_rfl) (by kernel_rfl) (fun _ _ _ h => h) (Or.inl ⟨by rfl, ?_⟩) hHeld ?_
            rotate_left
            focus (intro wq hq; clear hq; go_simp; try with_reducible rfl)
            simp only [Act.put, List.getElem_toArray, List.getElem_cons_succ, List.getElem_cons_zero, List.setIfInBounds_toArray, List.set_cons_zero, List.set_cons_succ]
            refine wpAnyH_take (i := 8) (v := ?_) rfl (by kernel_rfl) (by kernel_rfl) (by kernel_rfl) (fun _ _ _ h => h) (Or.inl ⟨by rfl, ?_⟩) hHeld ?_
            rotate_left
            focus (intro wq hq; clear hq; go_simp; try with_reducible rfl)
            simp only [Act.put, List.getElem_toArray, List.getElem_cons_succ, List.getElem_cons_zero, List.setIfInBounds_toArray, List.set_cons_zero, List.set_cons_succ]
            refine wpAnyH_take (i := 9) (v := _) rfl (by kernel_rfl) (by kernel_rfl) (by kernel_rfl) (fun _ _ _ h => h) (Or.inr ⟨by rfl, rfl⟩) hHeld ?_
            simp only [Act.put, List.getElem_toArray, List.getElem_cons_succ, List.getElem_cons_zero, List.setIfInBounds_toArray, List.set_cons_zero, List.set_cons_succ]
            refine wpAnyH_take (i := 10) (v := _) rfl (by kernel_rfl) (by kernel_rfl) (by kernel_rfl) (fun _ _ _ h => h) (Or.inr ⟨by rfl, rfl⟩) hHeld ?_
            simp only [Act.put, List.getElem_toArray, List.getElem_cons_succ, List.getElem_cons_zero, List.setIfInBounds_toArray, List.set_cons_zero, List.set_cons_succ]
            refine wpAnyH_take (i := 11) (v := _) rfl (by kernel_rfl) (by kernel_rfl) (by kernel_rfl) (fun _ _ _ h => h) (Or.inr ⟨by rfl, rfl⟩) hHeld ?_
            simp only [Act.put, List.getElem_toArray, List.getElem_cons_succ, List.getElem_cons_zero, List.setIfInBounds_toArray, List.set_cons_zero, List.set_cons_succ]
            refine wpAnyH_take (i := 12) (v := _) rfl (by kernel_rfl) (by kernel_rfl) (by kernel_rfl) (fun _ _ _ h => h) (Or.inr ⟨by rfl, rfl⟩) hHeld ?_
            simp only [Act.put, List.getElem_toArray, List.getElem_cons_succ, List.getElem_cons_zero, List.setIfInBounds_toArray, List.set_cons_zero, List.set_cons_succ]
            refine wpAnyH_take (i := 13) (v := _) rfl (by kernel_rfl) (by kernel_rfl) (by kernel_rfl) (fun _ _ _ h => h) (Or.inr ⟨by rfl, rfl⟩) hHeld ?_
            simp only [Act.put, List.getElem_toArray, List.getElem_cons_succ, List.getElem_cons_zero, List.setIfInBounds_toArray, List.set_cons_zero, List.set_cons_succ]
            refine wpAnyH_take (i := 14) (v := _) rfl (by kernel_rfl) (by kernel_rfl) (by kernel_rfl) (fun _ _ _ h => h) (Or.inr ⟨by rfl, rfl⟩) hHeld ?_
            simp only [Act.put, List.getElem_toArray, List.getElem_cons_succ, List.getElem_cons_zero, List.setIfInBounds_toArray, List.set_cons_zero, List.set_cons_succ]
            refine wpAnyH_take (i := 15) (v := _) rfl (by kernel_rfl) (by kernel_rfl) (by kernel_rfl) (fun _ _ _ h => h) (Or.inr ⟨by rfl, rfl⟩) hHeld ?_
            simp only [Act.put, List.getElem_toArray, List.getElem_cons_succ, List.getElem_cons_zero, List.setIfInBounds_toArray, List.set_cons_zero, List.set_cons_succ]
            refine wpAnyH_take (i := 16) (v := _) rfl (by kernel_rfl) (by kernel_rfl) (by kernel_rfl) (fun _ _ _ h => h) (Or.inr ⟨by rfl, rfl⟩) hHeld ?_
            simp only [Act.put, List.getElem_toArray, List.getElem_cons_succ, List.getElem_cons_zero, List.setIfInBounds_toArray, List.set_cons_zero, List.set_cons_succ]
            refine wpAnyH_take (i := 17) (v := _) rfl (by kernel_rfl) (by kernel_rfl) (by kernel_rfl) (fun _ _ _ h => h) (Or.inr ⟨by rfl, rfl⟩) hHeld ?_
            simp only [Act.put, List.getElem_toArray, List.getElem_cons_succ, List.getElem_cons_zero, List.setIfInBounds_toArray, List.set_cons_zero, List.set_cons_succ]
            refine wpAnyH_take (i := 18) (v := _) rfl (by kernel_rfl) (by kernel_rfl) (by kernel_rfl) (fun _ _ _ h => h) (Or.inr ⟨by rfl, rfl⟩) hHeld ?_
            simp only [Act.put, List.getElem_toArray, List.getElem_cons_succ, List.getElem_cons_zero, List.setIfInBounds_toArray, List.set_cons_zero, List.set_cons_succ]
            refine wpAnyH_take (i := 19) (v := _) rfl (by kernel_rfl) (by kernel_rfl) (by kernel_rfl) (fun _ _ _ h => h) (Or.inr ⟨by rfl, rfl⟩) hHeld ?_
            simp only [Act.put, List.getElem_toArray, List.getElem_cons_succ, List.getElem_cons_zero, List.setIfInBounds_toArray, List.set_cons_zero, List.set_cons_succ]
            refine wpAnyH_take (i := 20) (v := _) rfl (by kernel_rfl) (by kernel_rfl) (by kernel_rfl) (fun _ _ _ h => h) (Or.inr ⟨by rfl, rfl⟩) hHeld ?_
            simp only [Act.put, List.getElem_toArray, List.getElem_cons_succ, List.getElem_cons_zero, List.setIfInBounds_toArray, List.set_cons_zero, List.set_cons_succ]
            refine wpAnyH_take (i := 21) (v := _) rfl (by kernel_rfl) (by kernel_rfl) (by kernel_rfl) (fun _ _ _ h => h) (Or.inr ⟨by rfl, rfl⟩) hHeld ?_
            simp only [Act.put, List.getElem_toArray, List.getElem_cons_succ, List.getElem_cons_zero, List.setIfInBounds_toArray, List.set_cons_zero, List.set_cons_succ]
            refine wpAnyH_take (i := 22) (v := _) rfl (by kernel_rfl) (by kernel_rfl) (by kernel_rfl) (fun _ _ _ h => h) (Or.inr ⟨by rfl, rfl⟩) hHeld ?_
            simp only [Act.put, List.getElem_toArray, List.getElem_cons_succ, List.getElem_cons_zero, List.setIfInBounds_toArray, List.set_cons_zero, List.set_cons_succ]
            refine wpAnyH_take (i := 23) (v := ?_) rfl (by kernel_rfl) (by kernel_rfl) (by kernel_rfl) (fun _ _ _ h => h) (Or.inl ⟨by rfl, ?_⟩) hHeld ?_
            rotate_left
            focus (intro wq hq; clear hq; go_simp; try with_reducible rfl)
            simp only [Act.put, List.getElem_toArray, List.getElem_cons_succ, List.getElem_cons_zero, List.setIfInBounds_toArray, List.set_cons_zero, List.set_cons_succ]
            refine wpAnyH_done (by kernel_rfl) ?_ _
            go_wp2_with fail
            go_meet
            exact ⟨rfl, hHeld⟩
--RA>
          | false =>
            cases fb with
            | false =>
--<RB
              refine wp_region_held_drew (S := fun w' => Gr wr w' none) (by kernel_rfl) ((Gr.refl _ _).drew) (fun hHeld => ?_)
              refine wpAnyH_take (i := 0) (v := ?_) rfl (by kernel_rfl) (by kernel_rfl) (by kernel_rfl) (fun _ _ _ h => h) (Or.inl ⟨by rfl, ?_⟩) hHeld ?_
              rotate_left
              focus (intro wq hq; clear hq; go_simp; try with_reducible rfl)
              simp only [Act.put, List.getElem_toArray, List.getElem_cons_zero, List.setIfInBounds_toArray, List.set_cons_zero, List.set_cons_succ]
              refine wpAnyH_take (i := 1) (v := ?_) rfl (by kernel_rfl) (by kernel_rfl) (by kernel_rfl) (fun _ _ _ h => h) (Or.inl ⟨by rfl, ?_⟩) hHeld ?_
              rotate_left
              focus (intro wq hq; have k0 := hq.cell q0 (by simp); go_simp; try with_reducible rfl)
              simp only [Act.put, List.getElem_toArray, List.getElem_cons_succ, List.getElem_cons_zero, List.setIfInBounds_toArray, List.set_cons_zero, List.set_cons_succ]
              refine wpAnyH_take (i := 2) (v := ?_) rfl (by kernel_rfl) (by kernel_rfl) (by kernel_rfl) (fun _ _ _ h => h) (Or.inl ⟨by rfl, ?_⟩) hHeld ?_
              rotate_left
              focus (intro wq hq; clear hq; go_simp; try with_reducible rfl)
              simp only [Act.put, List.getElem_toArray, List.getElem_cons_succ, List.getElem_cons_zero, List.setIfInBounds_toArray, List.set_cons_zero, List.set_cons_succ]
              refine wpAnyH_take (i := 3) (v := ?_) rfl (by kernel_rfl) (by kernel_rfl) (by kernel_rfl) (fun _ _ _ h => h) (Or.inl ⟨by rfl, ?_⟩) hHeld ?_
              rotate_left
              focus (intro wq hq; clear hq; go_simp; try with_reducible rfl)
              simp only [Act.put, List.getElem_toArray, List.getElem_cons_succ, List.getElem_cons_zero, List.setIfInBounds_toArray, List.set_cons_zero, List.set_cons_succ]
              refine wpAnyH_take (i := 4) (v := ?_) rfl (by kernel_rfl) (by kernel_rfl) (by kernel_rfl) (fun _ _ _ h => h) (Or.inl ⟨by rfl, ?_⟩) hHeld ?_
              rotate_left
              focus (intro wq hq; have k0 := hq.cell d0 (by simp); have k1 := hq.cell d1 (by simp); have k2 := hq.cell d2 (by simp); have k3 := hq.cell d3 (by simp); have k4 := hq.cell d4 (by simp); go_simp; try with_reducible rfl)
              simp only [Act.put, List.getElem_toArray, List.getElem_cons_succ, List.getElem_cons_zero, List.setIfInBounds_toArray, List.set_cons_zero, List.set_cons_succ]
              refine wpAnyH_take (i := 5) (v := ?_) rfl (by kernel_rfl) (by kernel_rfl) (by kernel_rfl) (fun _ _ _ h => h) (Or.inl ⟨by rfl, ?_⟩) hHeld ?_
              rotate_left
              focus (intro wq hq; clear hq; go_simp; try with_reducible rfl)
              simp only [Act.put, List.getElem_toArray, List.getElem_cons_succ, List.getElem_cons_zero, List.setIfInBounds_toArray, List.set_cons_zero, List.set_cons_succ]
              refine wpAnyH_ready (rs := [6]) (by kernel_rfl) (by simp) ?_
              refine AllReadyH.cons rfl (fun K hK => ?_) AllReadyH.nil
              go_simp
              refine (l3Use_any p.types at' ct q.op q.x q.y q.n (.slice an nq cn) u hlt3 _ (HT3.out.gr0 (HGU.out.trans0 hHeld)) (by omega)).mono ?_
              rw [HU.out]
              rintro e w4 ⟨rfl, hg4⟩
              try dsimp only
              refine hK.out _ _ (hHeld.trans0 hg4) (fun hHeld => ?_)
              clear hK K
              try simp only [Act.put, List.getElem_toArray, List.getElem_cons_succ, List.getElem_cons_zero, List.setIfInBounds_toArray, List.set_cons_zero, List.set_cons_succ]
              refine wpAnyH_take (i := 7) (v := ?_) rfl (by kernel_rfl) (by kernel_rfl) (by kernel_rfl) (fun _ _ _ h => h) (Or.inl ⟨by rfl, ?_⟩) hHeld ?_
              rotate_left
              focus (intro wq hq; clear hq; go_simp; try with_reducible rfl)
              simp only [Act.put, List.getElem_toArray, List.getElem_cons_succ, List.getElem_cons_zero, List.setIfInBounds_toArray, List.set_cons_zero, List.set_cons_succ]
              refine wpAnyH_take (i := 8) (v := ?_) rfl (by kernel_rfl) (by kernel_rfl) (by kernel_rfl) (fun _ _ _ h => h) (Or.inl ⟨by rfl, ?_⟩) hHeld ?_
              rotate_left
              focus (intro wq hq; clear hq; go_simp; try with_reducible rfl)
              simp only [Act.put, List.getElem_toArray, List.getElem_cons_succ, List.getElem_cons_zero, List.setIfInBounds_toArray, List.set_cons_zero, List.set_cons_succ]
              refine wpAnyH_take (i := 9) (v := ?_) rfl (by kernel_rfl) (by kernel_rfl) (by kernel_rfl) (fun _ _ _ h => h) (Or.inl ⟨by rfl, ?_⟩) hHeld ?_
              rotate_left
              focus (intro wq hq; clear hq; go_simp; try with_reducible rfl)
              simp only [Act.put, List.getElem_toArray, List.getElem_cons_succ, List.getElem_cons_zero, List.setIfInBounds_toArray, List.set_cons_zero, List.set_cons_succ]
              refine wpAnyH_take (i := 10) (v := ?_) rfl (by kernel_rfl) (by kernel_rfl) (by kernel_rfl) (fun _ _ _ h => h) (Or.inl ⟨by rfl, ?_⟩) hHeld ?_
              rotate_left
              focus (intro wq hq; clear hq; go_simp; try with_reducible rfl)
              simp only [Act.put, List.getElem_toArray, List.getElem_cons_succ, List.getElem_cons_zero, List.setIfInBounds_toArray, List.set_cons_zero, List.set_cons_succ]
              refine wpAnyH_take (i := 11) (v := ?_) rfl (by kernel_rfl) (by kernel_rfl) (by kernel_rfl) (fun _ _ _ h => h) (Or.inl ⟨by rfl, ?_⟩) hHeld ?_
              rotate_left
              focus (intro wq hq; have k0 := hq.cell t0 (by simp); go_simp; try with_reducible rfl)
              simp only [Act.put, List.getElem_toArray, List.getElem_cons_succ, List.getElem_cons_zero, List.setIfInBounds_toArray, List.set_cons_zero, List.set_cons_succ]
              refine wpAnyH_take (i := 12) (v := ?_) rfl (by kernel_rfl) (by kernel_rfl) (by kernel_rfl) (fun _ _ _ h => h) (Or.inl ⟨by rfl, ?_⟩) hHeld ?_
              rotate_left
              focus (intro wq hq; clear hq; go_simp; try with_reducible rfl)
              simp only [Act.put, List.getElem_toArray, List.getElem_cons_succ, List.getElem_cons_zero, List.setIfInBounds_toArray, List.set_cons_zero, List.set_cons_succ]
              refine wpAnyH_take (i := 13) (v := ?_) rfl (by kernel_rfl) (by kernel_rfl) (by kernel_rfl) (fun _ _ _ h => h) (Or.inl ⟨by rfl, ?_⟩) hHeld ?_
              rotate_left
              focus (intro wq hq; clear hq; go_simp; try with_reducible rfl)
              simp only [Act.put, List.getElem_toArray, List.getElem_cons_succ, List.getElem_cons_zero, List.setIfInBounds_toArray, List.set_cons_zero, List.set_cons_succ]
              refine wpAnyH_take (i := 14) (v := ?_) rfl (by kernel_rfl) (by kernel_rfl) (by kernel_rfl) (fun _ _ _ h => h) (Or.inl ⟨by rfl, ?_⟩) hHeld ?_
              rotate_left
              focus (intro wq hq; have k0 := hq.cell f0 (by simp); go_simp; try with_reducible rfl)
              simp only [Act.put, List.getElem_toArray, List.getElem_cons_succ, List.getElem_cons_zero, List.setIfInBounds_toArray, List.set_cons_zero, List.set_cons_succ]
              refine wpAnyH_take (i := 15) (v := ?_) rfl (by kernel_rfl) (by kernel_rfl) (by kernel_rfl) (fun _ _ _ h => h) (Or.inl ⟨by rfl, ?_⟩) hHeld ?_
              rotate_left
              focus (intro wq hq; clear hq; go_simp; try with_reducible rfl)
              simp only [Act.put, List.getElem_toArray, List.getElem_cons_succ, List.getElem_cons_zero, List.setIfInBounds_toArray, List.set_cons_zero, List.set_cons_succ]
              refine wpAnyH_take (i := 16) (v := _) rfl (by kernel_rfl) (by kernel_rfl) (by kernel_rfl) (fun _ _ _ h => h) (Or.inr ⟨by rfl, rfl⟩) hHeld ?_
              simp only [Act.put, List.getElem_toArray, List.getElem_cons_succ, List.getElem_cons_zero, List.setIfInBounds_toArray, List.set_cons_zero, List.set_cons_succ]
              refine wpAnyH_take (i := 17) (v := _) rfl (by kernel_rfl) (by kernel_rfl) (by kernel_rfl) (fun _ _ _ h => h) (Or.inr ⟨by rfl, rfl⟩) hHeld ?_
              simp only [Act.put, List.getElem_toArray, List.getElem_cons_succ, List.getElem_cons_zero, List.setIfInBounds_toArray, List.set_cons_zero, List.set_cons_succ]
              refine wpAnyH_take (i := 18) (v := _) rfl (by kernel_rfl) (by kernel_rfl) (by kernel_rfl) (fun _ _ _ h => h) (Or.inr ⟨by rfl, rfl⟩) hHeld ?_
              simp only [Act.put, List.getElem_toArray, List.getElem_cons_succ, List.getElem_cons_zero, List.setIfInBounds_toArray, List.set_cons_zero, List.set_cons_succ]
              refine wpAnyH_take (i := 19) (v := _) rfl (by kernel_rfl) (by kernel_rfl) (by kernel_rfl) (fun _ _ _ h => h) (Or.inr ⟨by rfl, rfl⟩) hHeld ?_
              simp only [Act.put, List.getElem_toArray, List.getElem_cons_succ, List.getElem_cons_zero, List.setIfInBounds_toArray, List.set_cons_zero, List.set_cons_succ]
              refine wpAnyH_take (i := 20) (v := _) rfl (by kernel_rfl) (by kernel_rfl) (by kernel_rfl) (fun _ _ _ h => h) (Or.inr ⟨by rfl, rfl⟩) hHeld ?_
              simp only [Act.put, List.getElem_toArray, List.getElem_cons_succ, List.getElem_cons_zero, List.setIfInBounds_toArray, List.set_cons_zero, List.set_cons_succ]
              refine wpAnyH_take (i := 21) (v := _) rfl (by kernel_rfl) (by kernel_rfl) (by kernel_rfl) (fun _ _ _ h => h) (Or.inr ⟨by rfl, rfl⟩) hHeld ?_
              simp only [Act.put, List.getElem_toArray, List.getElem_cons_succ, List.getElem_cons_zero, List.setIfInBounds_toArray, List.set_cons_zero, List.set_cons_succ]
              refine wpAnyH_take (i := 22) (v := ?_) rfl (by kernel_rfl) (by kernel_rfl) (by kernel_rfl) (fun _ _ _ h => h) (Or.inl ⟨by rfl, ?_⟩) hHeld ?_
              rotate_left
              focus (intro wq hq; clear hq; go_simp; try with_reducible rfl)
              simp only [Act.put, List.getElem_toArray, List.getElem_cons_succ, List.getElem_cons_zero, List.setIfInBounds_toArray, List.set_cons_zero, List.set_cons_succ]
              refine wpAnyH_take (i := 23) (v := ?_) rfl (by kernel_rfl) (by kernel_rfl) (by kernel_rfl) (fun _ _ _ h => h) (Or.inl ⟨by rfl, ?_⟩) hHeld ?_
              rotate_left
              focus (intro wq hq; clear hq; go_simp; try with_reducible rfl)
              simp only [Act.put, List.getElem_toArray, List.getElem_cons_succ, List.getElem_cons_zero, List.setIfInBounds_toArray, List.set_cons_zero, List.set_cons_succ]
              refine wpAnyH_done (by kernel_rfl) ?_ _
              go_wp2_with fail
              go_meet
              exact ⟨rfl, hHeld⟩
--RB>
            | true =>
--<RC
              refine wp_region_held_drew (S := fun w' => Gr wr w' none) (by kernel_rfl) ((Gr.refl _ _).drew) (fun hHeld => ?_)
              refine wpAnyH_take (i := 0) (v := ?_) rfl (by kernel_rfl) (by kernel_rfl) (by kernel_rfl) (fun _ _ _ h => h) (Or.inl ⟨by rfl, ?_⟩) hHeld ?_
              rotate_left
              focus (intro wq hq; clear hq; go_simp; try with_reducible rfl)
              simp only [Act.put, List.getElem_toArray, List.getElem_cons_zero, List.setIfInBounds_toArray, List.set_cons_zero, List.set_cons_succ]
              refine wpAnyH_take (i := 1) (v := ?_) rfl (by kernel_rfl) (by kernel_rfl) (by kernel_rfl) (fun _ _ _ h => h) (Or.inl ⟨by rfl, ?_⟩) hHeld ?_
              rotate_left
              focus (intro wq hq; have k0 := hq.cell q0 (by simp); go_simp; try with_reducible rfl)
              simp only [Act.put, List.getElem_toArray, List.getElem_cons_succ, List.getElem_cons_zero, List.setIfInBounds_toArray, List.set_cons_zero, List.set_cons_succ]
              refine wpAnyH_take (i := 2) (v := ?_) rfl (by kernel_rfl) (by kernel_rfl) (by kernel_rfl) (fun _ _ _ h => h) (Or.inl ⟨by rfl, ?_⟩) hHeld ?_
              rotate_left
              focus (intro wq hq; clear hq; go_simp; try with_reducible rfl)
              simp only [Act.put, List.getElem_toArray, List.getElem_cons_succ, List.getElem_cons_zero, List.setIfInBounds_toArray, List.set_cons_zero, List.set_cons_succ]
              refine wpAnyH_take (i := 3) (v := ?_) rfl (by kernel_rfl) (by kernel_rfl) (by kernel_rfl) (fun _ _ _ h => h) (Or.inl ⟨by rfl, ?_⟩) hHeld ?_
              rotate_left
              focus (intro wq hq; clear hq; go_simp; try with_reducible rfl)
              simp only [Act.put, List.getElem_toArray, List.getElem_cons_succ, List.getElem_cons_zero, List.setIfInBounds_toArray, List.set_cons_zero, List.set_cons_succ]
              refine wpAnyH_take (i := 4) (v := ?_) rfl (by kernel_rfl) (by kernel_rfl) (by kernel_rfl) (fun _ _ _ h => h) (Or.inl ⟨by rfl, ?_⟩) hHeld ?_
              rotate_left
              focus (intro wq hq; have k0 := hq.cell d0 (by simp); have k1 := hq.cell d1 (by simp); have k2 := hq.cell d2 (by simp); have k3 := hq.cell d3 (by simp); have k4 := hq.cell d4 (by simp); go_simp; try with_reducible rfl)
              simp only [Act.put, List.getElem_toArray, List.getElem_cons_succ, List.getElem_cons_zero, List.setIfInBounds_toArray, List.set_cons_zero, List.set_cons_succ]
              refine wpAnyH_take (i := 5) (v := ?_) rfl (by kernel_rfl) (by kernel_rfl) (by kernel_rfl) (fun _ _ _ h => h) (Or.inl ⟨by rfl, ?_⟩) hHeld ?_
              rotate_left
              focus (intro wq hq; clear hq; go_simp; try with_reducible rfl)
              simp only [Act.put, List.getElem_toArray, List.getElem_cons_succ, List.getElem_cons_zero, List.setIfInBounds_toArray, List.set_cons_zero, List.set_cons_succ]
              refine wpAnyH_ready (rs := [6]) (by kernel_rfl) (by simp) ?_
              refine AllReadyH.cons rfl (fun K hK => ?_) AllReadyH.nil
              go_simp
              refine (l3Use_any p.types at' ct q.op q.x q.y q.n (.slice an nq cn) u hlt3 _ (HT3.out.gr0 (HGU.out.trans0 hHeld)) (by omega)).mono ?_
              rw [HU.out]
              rintro e w4 ⟨rfl, hg4⟩
              try dsimp only
              refine hK.out _ _ (hHeld.trans0 hg4) (fun hHeld => ?_)
              clear hK K
              try simp only [Act.put, List.getElem_toArray, List.getElem_cons_succ, List.getElem_cons_zero, List.setIfInBounds_toArray, List.set_cons_zero, List.set_cons_succ]
              refine wpAnyH_take (i := 7) (v := ?_) rfl (by kernel_rfl) (by kernel_rfl) (by kernel_rfl) (fun _ _ _ h => h) (Or.inl ⟨by rfl, ?_⟩) hHeld ?_
              rotate_left
              focus (intro wq hq; clear hq; go_simp; try with_reducible rfl)
              simp only [Act.put, List.getElem_toArray, List.getElem_cons_succ, List.getElem_cons_zero, List.setIfInBounds_toArray, List.set_cons_zero, List.set_cons_succ]
              refine wpAnyH_take (i := 8) (v := ?_) rfl (by kernel_rfl) (by kernel_rfl) (by kernel_rfl) (fun _ _ _ h => h) (Or.inl ⟨by rfl, ?_⟩) hHeld ?_
              rotate_left
              focus (intro wq hq; clear hq; go_simp; try with_reducible rfl)
              simp only [Act.put, List.getElem_toArray, List.getElem_cons_succ, List.getElem_cons_zero, List.setIfInBounds_toArray, List.set_cons_zero, List.set_cons_succ]
              refine wpAnyH_take (i := 9) (v := ?_) rfl (by kernel_rfl) (by kernel_rfl) (by kernel_rfl) (fun _ _ _ h => h) (Or.inl ⟨by rfl, ?_⟩) hHeld ?_
              rotate_left
              focus (intro wq hq; clear hq; go_simp; try with_reducible rfl)
              simp only [Act.put, List.getElem_toArray, List.getElem_cons_succ, List.getElem_cons_zero, List.setIfInBounds_toArray, List.set_cons_zero, List.set_cons_succ]
              refine wpAnyH_take (i := 10) (v := ?_) rfl (by kernel_rfl) (by kernel_rfl) (by kernel_rfl) (fun _ _ _ h => h) (Or.inl ⟨by rfl, ?_⟩) hHeld ?_
              rotate_left
              focus (intro wq hq; clear hq; go_simp; try with_reducible rfl)
              simp only [Act.put, List.getElem_toArray, List.getElem_cons_succ, List.getElem_cons_zero, List.setIfInBounds_toArray, List.set_cons_zero, List.set_cons_succ]
              refine wpAnyH_take (i := 11) (v := ?_) rfl (by kernel_rfl) (by kernel_rfl) (by kernel_rfl) (fun _ _ _ h => h) (Or.inl ⟨by rfl, ?_⟩) hHeld ?_
              rotate_left
              focus (intro wq hq; have k0 := hq.cell t0 (by simp); go_simp; try with_reducible rfl)
              simp only [Act.put, List.getElem_toArray, List.getElem_cons_succ, List.getElem_cons_zero, List.setIfInBounds_toArray, List.set_cons_zero, List.set_cons_succ]
              refine wpAnyH_take (i := 12) (v := ?_) rfl (by kernel_rfl) (by kernel_rfl) (by kernel_rfl) (fun _ _ _ h => h) (Or.inl ⟨by rfl, ?_⟩) hHeld ?_
              rotate_left
              focus (intro wq hq; clear hq; go_simp; try with_reducible rfl)
              simp only [Act.put, List.getElem_toArray, List.getElem_cons_succ, List.getElem_cons_zero, List.setIfInBounds_toArray, List.set_cons_zero, List.set_cons_succ]
              refine wpAnyH_take (i := 13) (v := ?_) rfl (by kernel_rfl) (by kernel_rfl) (by kernel_rfl) (fun _ _ _ h => h) (Or.inl ⟨by rfl, ?_⟩) hHeld ?_
              rotate_left
              focus (intro wq hq; clear hq; go_simp; try with_reducible rfl)
              simp only [Act.put, List.getElem_toArray, List.getElem_cons_succ, List.getElem_cons_zero, List.setIfInBounds_toArray, List.set_cons_zero, List.set_cons_succ]
              refine wpAnyH_take (i := 14) (v := ?_) rfl (by kernel_rfl) (by kernel_rfl) (by kernel_rfl) (fun _ _ _ h => h) (Or.inl ⟨by rfl, ?_⟩) hHeld ?_
              rotate_left
              focus (intro wq hq; have k0 := hq.cell f0 (by simp); go_simp; try with_reducible rfl)
              simp only [Act.put, List.getElem_toArray, List.getElem_cons_succ, List.getElem_cons_zero, List.setIfInBounds_toArray, List.set_cons_zero, List.set_cons_succ]
              refine wpAnyH_take (i := 15) (v := ?_) rfl (by kernel_rfl) (by kernel_rfl) (by kernel_rfl) (fun _ _ _ h => h) (Or.inl ⟨by rfl, ?_⟩) hHeld ?_
              rotate_left
              focus (intro wq hq; clear hq; go_simp; try with_reducible rfl)
              simp only [Act.put, List.getElem_toArray, List.getElem_cons_succ, List.getElem_cons_zero, List.setIfInBounds_toArray, List.set_cons_zero, List.set_cons_succ]
              refine wpAnyH_take (i := 16) (v := ?_) rfl (by kernel_rfl) (by kernel_rfl) (by kernel_rfl) (fun _ _ _ h => h) (Or.inl ⟨by rfl, ?_⟩) hHeld ?_
              rotate_left
              focus (intro wq hq; clear hq; go_simp; try with_reducible rfl)
              simp only [Act.put, List.getElem_toArray, List.getElem_cons_succ, List.getElem_cons_zero, List.setIfInBounds_toArray, List.set_cons_zero, List.set_cons_succ]
              refine wpAnyH_take (i := 17) (v := ?_) rfl (by kernel_rfl) (by kernel_rfl) (by kernel_rfl) (fun _ _ _ h => h) (Or.inl ⟨by rfl, ?_⟩) hHeld ?_
              rotate_left
              focus (intro wq hq; clear hq; go_simp; try with_reducible rfl)
              simp only [Act.put, List.getElem_toArray, List.getElem_cons_succ, List.getElem_cons_zero, List.setIfInBounds_toArray, List.set_cons_zero, List.set_cons_succ]
              refine wpAnyH_take (i := 18) (v := ?_) rfl (by kernel_rfl) (by kernel_rfl) (by kernel_rfl) (fun _ _ _ h => h) (Or.inl ⟨by rfl, ?_⟩) hHeld ?_
              rotate_left
              focus (intro wq hq; have k0 := hq.cell d0 (by simp); have k1 := hq.cell d1 (by simp); have k2 := hq.cell d2 (by simp); have k3 := hq.cell d3 (by simp); have k4 := hq.cell d4 (by simp); go_simp; try with_reducible rfl)
              simp only [Act.put, List.getElem_toArray, List.getElem_cons_succ, List.getElem_cons_zero, List.setIfInBounds_toArray, List.set_cons_zero, List.set_cons_succ]
              refine wpAnyH_take (i := 20) (v := ?_) rfl (by kernel_rfl) (by kernel_rfl) (by kernel_rfl) (fun _ _ _ h => h) (Or.inl ⟨by rfl, ?_⟩) hHeld ?_
              rotate_left
              focus (intro wq hq; clear hq; go_simp; try with_reducible rfl)
              simp only [Act.put, List.getElem_toArray, List.getElem_cons_succ, List.getElem_cons_zero, List.setIfInBounds_toArray, List.set_cons_zero, List.set_cons_succ]
              refine wpAnyH_ready (rs := [19]) (by kernel_rfl) (by simp) ?_
              refine AllReadyH.cons rfl (fun K hK => ?_) AllReadyH.nil
              go_simp
              refine (l3Set_any q.op q.x q.y q.n _ _).mono ?_
              rw [HSS.out]
              rintro e w5 ⟨rfl, hg5⟩
              try dsimp only
              refine hK.out _ _ (hHeld.trans0 hg5) (fun hHeld => ?_)
              clear hK K
              try simp only [Act.put, List.getElem_toArray, List.getElem_cons_succ, List.getElem_cons_zero, List.setIfInBounds_toArray, List.set_cons_zero, List.set_cons_succ]
              refine wpAnyH_take (i := 21) (v := ?_) rfl (by kernel_rfl) (by kernel_rfl) (by kernel_rfl) (fun _ _ _ h => h) (Or.inl ⟨by rfl, ?_⟩) hHeld ?_
              rotate_left
              focus (intro wq hq; clear hq; go_simp; try with_reducible rfl)
              simp only [Act.put, List.getElem_toArray, List.getElem_cons_succ, List.getElem_cons_zero, List.setIfInBounds_toArray, List.set_cons_zero, List.set_cons_succ]
              refine wpAnyH_take (i := 22) (v := ?_) rfl (by kernel_rfl) (by kernel_rfl) (by kernel_rfl) (fun _ _ _ h => h) (Or.inl ⟨by rfl, ?_⟩) hHeld ?_
              rotate_left
              focus (intro wq hq; clear hq; go_simp; try with_reducible rfl)
              simp only [Act.put, List.getElem_toArray, List.getElem_cons_succ, List.getElem_cons_zero, List.setIfInBounds_toArray, List.set_cons_zero, List.set_cons_succ]
              refine wpAnyH_take (i := 23) (v := ?_) rfl (by kernel_rfl) (by kernel_rfl) (by kernel_rfl) (fun _ _ _ h => h) (Or.inl ⟨by rfl, ?_⟩) hHeld ?_
              rotate_left
              focus (intro wq hq; clear hq; go_simp; try with_reducible rfl)
              simp only [Act.put, List.getElem_toArray, List.getElem_cons_succ, List.getElem_cons_zero, List.setIfInBounds_toArray, List.set_cons_zero, List.set_cons_succ]
              refine wpAnyH_done (by kernel_rfl) ?_ _
              go_wp2_with fail
              go_meet
              exact ⟨rfl, hHeld⟩
--RC>
        case rest =>
          rename World => wx
          obtain ⟨rfl, hgx⟩ := hcut
          obtain ⟨nd, hnd⟩ : ∃ nd, (ub || (fb && (SS != (u : Int)))) = nd := ⟨_, rfl⟩
          rw [hnd] at HNB ⊢
          have hgw : Gr w3 wx none := HGU.out.trans0 hgx
          have HC2 := Lib.hid (HCo.out.gr hgx)
          clear hnd hubb hgx d0 d1 d2 d3 d4 t0 f0 q0
          cases nd with
          | true =>
            go_wp2_with (at_builtin; refine app_c wx _ rfl (.tmp 47) (.tmp 49) rfl w.heap.size w3.heap.size ao cap m _ u rfl HC2.out ((Gr.refl _ _).alloc _) HNB.out wx.heap.size 1 rfl (cell_of_row _ _ _ _ _ _ (heap1_0 _ _)) (by omega) hgw.size ?_; rintro g cap' w4 hC4 hg4)
            go_roundw
            case rel => exact ⟨u + 1, m + 1, cap', _, by omega, by go_num, rfl, hC4, hg4 _ (hgw.alloc _) (Nat.le_refl _)⟩
            case measure => simp [intOf]; omega
          | false =>
            go_wp2_with fail
            go_roundw
            case rel => exact ⟨u + 1, m, cap, ao, by omega, by go_num, rfl, HC2.out.no HNB.out, hgw⟩
            case measure => simp [intOf]; omega
      · obtain rfl : u = p.types.length := by omega
        go_wp2_with fail
        go_ret
        exact HCo.out.hand HO.out (HG3.out.trans0 hg)
set_option maxRecDepth 100000 in
set_option maxHeartbeats 4000000 in
theorem specTakesOf_any (p : Pr) (at' ab : Option Addr) (ct cb : Nat) (w : World) (hT : InAt w Any p.types at') (hB : SlAt w Any p.body ab) (hs : p.types.length ≤ 1048576) (hc : St.count p.body ≤ 1048576) :
    Calls Try.prog 47 #[.agg #[.slice at' p.types.length ct, .slice ab p.body.length cb]] w (HandI (takesOf p) w) := by
  have hlc := count_length p.body
  have hg1 : ∀ o, Gr w (w.alloc o) none := fun o => (Gr.refl _ _).alloc _
  have hmk := fun w : World => run_make_row' (P := Try.prog) 75 4 (.bool false) 1 Try.underlying75 Binfo rfl .i64 .i64 p.types.length (by omega) (by omega) w
  have HTK := Lib.hid (show takesOf p = coll (fun v => (ptsOf p).any fun q => takesB p.types q.op q.x q.y v) p.types.length by
    cases hv : validP p with
    | true => rw [takesOf_in hv]; unfold ptsOf; rw [if_pos hv]
    | false => rw [takesOf_out hv, coll_none]; intro k; unfold ptsOf; rw [hv]; rfl)
  have hml := ptsOf_le p
  go_enter Try.func47, Try.ntmps47
  go_wp2_with fail
  refine (specPointsOf_any p at' ab ct cb _ (hT.gr0 (hg1 _)) (hB.gr0 (hg1 _)) hs hc).mono ?_
  rintro e w1 ⟨L, am, c, hM, rfl, hown, hg⟩
  have hG1 : Gr w w1 none := (hg1 _).trans0 hg
  have q0 : w1.cell? ⟨w.heap.size, 0, none⟩ = some (.slice at' p.types.length ct) := hg.cell (p := ⟨w.heap.size, 0, none⟩) (cell?_new2 _ _).1 (by simp)
  rw [← hM] at HTK hml
  have HR := Lib.hid hown.read
  have hR0 := Row.new w1 p.types.length
  have hgB : Gr w1 (w1.alloc (.cells (madeCells #[.bool false] p.types.length) 4)) none := (Gr.refl _ _).alloc _
  have HQ := Lib.hid q0
  have HTB := Lib.hid (hT.gr0 hG1)
  have HG1 := Lib.hid hG1
  clear hg hM hown hT hB hG1
  go_wp2_with fail
  go_loopw [5] (fun i wr => ∃ k : Nat, k ≤ L.length ∧ i = .int .i64 k ∧ Row wr w1.heap.size p.types.length (fun v => (L.take k).any fun q => takesB p.types q.op q.x q.y v) ∧ Gr w1 wr none) (fun i _ => L.length - (intOf i).toNat)
  case atStart => exact ⟨0, Nat.zero_le _, rfl, hR0.congr (fun j _ => by simp), hgB⟩
  case round =>
    obtain ⟨k, hk, rfl, hRw, hg⟩ := hrel
    have HRW := Lib.hid hRw
    have HG := Lib.hid hg
    clear hRw hmk hR0 hgB q0
    by_cases hlt : k < L.length
    · obtain ⟨q, eq⟩ : ∃ q, L[k] = q := ⟨_, rfl⟩
      have HE := Lib.hid eq
      clear hg eq
      go_wp2_with fail
      go_loopw [6] (fun i wq => ∃ u : Nat, u ≤ p.types.length ∧ i = .int .i64 u ∧ Row wq w1.heap.size p.types.length (fun v => ((L.take k).any fun q => takesB p.types q.op q.x q.y v) || (decide (v < u) && takesB p.types q.op q.x q.y v)) ∧ Gr w1 wq none) (fun i _ => p.types.length - (intOf i).toNat)
      case atStart => exact ⟨0, Nat.zero_le _, rfl, HRW.out.congr (fun j _ => by simp), HG.out⟩
      case round =>
        obtain ⟨u, hu, rfl, hR2, hg⟩ := hrel
        have HR2 := Lib.hid hR2
        have HG2 := Lib.hid hg
        by_cases hlt3 : u < p.types.length
        · obtain ⟨b, po, rfl, an, cn, d0, d1, d2, d3, d4, -, -⟩ := (HR.out.gr hg) k hlt
          rw [HE.out] at d0 d1 d2 d3 d4
          have q0 := hg.cell HQ.out (by simp)
          obtain ⟨nq, hnq⟩ : ∃ nq, q.next.length = nq := ⟨_, rfl⟩
          rw [hnq] at d4
          obtain ⟨tb, htb⟩ : ∃ tb, takesB p.types q.op q.x q.y u = tb := ⟨_, rfl⟩
          have hte := take_eq (op := q.op) (x := q.x) (y := q.y) hlt3
          rw [htb] at hte
          have HTE := Lib.hid hte
          have HTBB := Lib.hid htb
          clear hg hR2 hnq hte htb
          go_upto_region 9 with fail
          go_cut [33] (fun s wx => s = .bool tb ∧ Gr wr wx none)
          case first =>
--<TA
            refine wp_region_held_drew (S := fun w' => Gr wr w' none) (by kernel_rfl) ((Gr.refl _ _).drew) (fun hHeld => ?_)
            refine wpAnyH_take (i := 0) (v := ?_) rfl (by kernel_rfl) (by kernel_rfl) (by kernel_rfl) (fun _ _ _ h => h) (Or.inl ⟨by rfl, ?_⟩) hHeld ?_
            rotate_left
            focus (intro wq hq; clear hq; go_simp; try with_reducible rfl)
            simp only [Act.put, List.getElem_toArray, List.getElem_cons_zero, List.setIfInBounds_toArray, List.set_cons_zero, List.set_cons_succ]
            refine wpAnyH_take (i := 1) (v := ?_) rfl (by kernel_rfl) (by kernel_rfl) (by kernel_rfl) (fun _ _ _ h => h) (Or.inl ⟨by rfl, ?_⟩) hHeld ?_
            rotate_left
            focus (intro wq hq; have k0 := hq.cell q0 (by simp); go_simp; try with_reducible rfl)
            simp only [Act.put, List.getElem_toArray, List.getElem_cons_succ, List.getElem_cons_zero, List.setIfInBounds_toArray, List.set_cons_zero, List.set_cons_succ]
            refine wpAnyH_take (i := 2) (v := ?_) rfl (by kernel_rfl) (by kernel_rfl) (by kernel_rfl) (fun _ _ _ h => h) (Or.inl ⟨by rfl, ?_⟩) hHeld ?_
            rotate_left
            focus (intro wq hq; clear hq; go_simp; try with_reducible rfl)
            simp only [Act.put, List.getElem_toArray, List.getElem_cons_succ, List.getElem_cons_zero, List.setIfInBounds_toArray, List.set_cons_zero, List.set_cons_succ]
            refine wpAnyH_take (i := 3) (v := ?_) rfl (by kernel_rfl) (by kernel_rfl) (by kernel_rfl) (fun _ _ _ h => h) (Or.inl ⟨by rfl, ?_⟩) hHeld ?_
            rotate_left
            focus (intro wq hq; clear hq; go_simp; try with_reducible rfl)
            simp only [Act.put, List.getElem_toArray, List.getElem_cons_succ, List.getElem_cons_zero, List.setIfInBounds_toArray, List.set_cons_zero, List.set_cons_succ]
            refine wpAnyH_take (i := 4) (v := ?_) rfl (by kernel_rfl) (by kernel_rfl) (by kernel_rfl) (fun _ _ _ h => h) (Or.inl ⟨by rfl, ?_⟩) hHeld ?_
            rotate_left
            focus (intro wq hq; clear hq; go_simp; try with_reducible rfl)
            simp only [Act.put, List.getElem_toArray, List.getElem_cons_succ, List.getElem_cons_zero, List.setIfInBounds_toArray, List.set_cons_zero, List.set_cons_succ]
            refine wpAnyH_take (i := 5) (v := ?_) rfl (by kernel_rfl) (by kernel_rfl) (by kernel_rfl) (fun _ _ _ h => h) (Or.inl ⟨by rfl, ?_⟩) hHeld ?_
            rotate_left
            focus (intro wq hq; have k0 := hq.cell d0 (by simp); have k1 := hq.cell d1 (by simp); have k2 := hq.cell d2 (by simp); have k3 := hq.cell d3 (by simp); have k4 := hq.cell d4 (by simp); go_simp; try with_reducible rfl)
            simp only [Act.put, List.getElem_toArray, List.getElem_cons_succ, List.getElem_cons_zero, List.setIfInBounds_toArray, List.set_cons_zero, List.set_cons_succ]
            refine wpAnyH_take (i := 6) (v := ?_) rfl (by kernel_rfl) (by kernel_rfl) (by kernel_rfl) (fun _ _ _ h => h) (Or.inl ⟨by rfl, ?_⟩) hHeld ?_
            rotate_left
            focus (intro wq hq; clear hq; go_simp; try with_reducible rfl)
            simp only [Act.put, List.getElem_toArray, List.getElem_cons_succ, List.getElem_cons_zero, List.setIfInBounds_toArray, List.set_cons_zero, List.set_cons_succ]
            refine wpAnyH_ready (rs := [7]) (by kernel_rfl) (by simp) ?_
            refine AllReadyH.cons rfl (fun K hK => ?_) AllReadyH.nil
            go_simp
            refine (l3Use_any p.types at' ct q.op q.x q.y q.n (.slice an nq cn) u hlt3 _ (HTB.out.gr0 (HG2.out.trans0 hHeld)) (by omega)).mono ?_
            rintro e w4 ⟨rfl, hg4⟩
            try dsimp only
            refine hK.out _ _ (hHeld.trans0 hg4) (fun hHeld => ?_)
            clear hK K
            try simp only [Act.put, List.getElem_toArray, List.getElem_cons_succ, List.getElem_cons_zero, List.setIfInBounds_toArray, List.set_cons_zero, List.set_cons_succ]
            refine wpAnyH_take (i := 8) (v := ?_) rfl (by kernel_rfl) (by kernel_rfl) (by kernel_rfl) (fun _ _ _ h => h) (Or.inl ⟨by rfl, ?_⟩) hHeld ?_
            rotate_left
            focus (intro wq hq; clear hq; go_simp; try with_reducible rfl)
            simp only [Act.put, List.getElem_toArray, List.getElem_cons_succ, List.getElem_cons_zero, List.setIfInBounds_toArray, List.set_cons_zero, List.set_cons_succ]
            refine wpAnyH_done (by kernel_rfl) ?_ _
            go_wp2_with fail
            go_meet
            exact ⟨by rw [← HTE.out], hHeld⟩
--TA>
          case rest =>
            rename World => wx
            obtain ⟨rfl, hgx⟩ := hcut
            have hRx := HR2.out.gr0 hgx
            have hf := hRx.free u
            have hcu : ∃ z, wx.cell? ⟨w1.heap.size, u, none⟩ = some (.bool z) := ⟨_, hRx.cell hlt3⟩
            obtain ⟨z, hcz⟩ := hcu
            have HRX := Lib.hid hRx
            have HGX := Lib.hid (HG2.out.trans0 hgx)
            clear hgx hRx d0 d1 d2 d3 d4 q0
            cases tb with
            | true =>
              have HN := Lib.hid (show Row (wx.setCell ⟨w1.heap.size, u, none⟩ (.bool true)) w1.heap.size p.types.length (fun v => ((L.take k).any fun q => takesB p.types q.op q.x q.y v) || (decide (v < u + 1) && takesB p.types q.op q.x q.y v)) from (HRX.out.set u true).congr fun j _ => by
                by_cases e : j = u
                · subst e; simp [HTBB.out]
                · have : (j < u + 1) = (j < u) := by apply propext; omega
                  simp [e, this])
              go_wp2_with fail
              go_roundw
              case rel => exact ⟨u + 1, by omega, by go_num, HN.out, HGX.out.setNew (Nat.le_refl _) _⟩
              case measure => simp [intOf]; omega
            | false =>
              have HN := Lib.hid (show Row wx w1.heap.size p.types.length (fun v => ((L.take k).any fun q => takesB p.types q.op q.x q.y v) || (decide (v < u + 1) && takesB p.types q.op q.x q.y v)) from HRX.out.congr fun j _ => by
                by_cases e : j = u
                · subst e; simp [HTBB.out]
                · have : (j < u + 1) = (j < u) := by apply propext; omega
                  simp [this])
              go_wp2_with fail
              go_roundw
              case rel => exact ⟨u + 1, by omega, by go_num, HN.out, HGX.out⟩
              case measure => simp [intOf]; omega
        · obtain rfl : u = p.types.length := by omega
          go_wp2_with fail
          go_roundw
          case rel => exact ⟨k + 1, by omega, by go_num, HR2.out.congr (fun j hj => by
            rw [List.take_succ_eq_append_getElem hlt, List.any_append, HE.out]; simp [hj]), HG2.out⟩
          case measure => simp [intOf]; omega
    · obtain rfl : k = L.length := by omega
      have hgw : Gr w wr none := HG1.out.trans0 hg
      go_wp2_with fail
      refine (l3NumbersL_any w1.heap.size p.types.length p.types.length _ _ HRW.out hs).mono ?_
      rw [List.take_of_length_le (Nat.le_refl _), ← HTK.out]
      intro e w4 hh
      have hhh := HandI.aft hh hgw
      obtain ⟨a4, c4, rfl, -⟩ := hh
      have HH := Lib.hid hhh
      clear hhh
      go_wp2_with fail
      go_ret
      exact HH.out
end Go.Proofs.Ytdnhinkjmjpnnaa

/- Cells in the reference: the walk of MayAlias. -/
import Derived.Test.YtdnhinkjmjpnnaaDQ

import Derived.Test.YtdnhinkjmjpnnaaDJ

import Derived.Deep.RegionWith

namespace Go.Proofs.Ytdnhinkjmjpnnaa

open Go.RowKit

theorem trk_in {p : Pr} (hv : validP p = true) {kd : Int} {size : Nat} {val : Nat → (Nat × Nat → Prop) → Nat → Prop} (hk : KindOk p kd size val) {i v k : Nat} (h : trkB p val i v k = true) : v < p.types.length ∧ k < size := by
  have h1 := trkB_iff.1 h
  have := h1 (fun _ b => b.1 < p.types.length ∧ b.2 < size) (by
    rintro i b (⟨_, hb⟩ | ⟨j, hj, hn, hb⟩)
    · exact hb.elim
    · have hf := rowB_iff hv hk hj (F := fun v k => decide (v < p.types.length) && decide (k < size)) (fun v k h => by simpa using h) rfl b
      have h2 := hf.2 (trkA_mono hk.2.1 j _ _ (fun b hb => by simpa using hb) b hb)
      unfold rowB at h2
      simp only [Bool.and_eq_true, decide_eq_true_eq] at h2
      exact ⟨h2.1, h2.2.1⟩)
  exact this
theorem kind_cells {p : Pr} (_hv : validP p = true) : KindOk p 0 (pts p).length (cellV (pts p)) := by
  refine ⟨.inl rfl, cellV_mono _, fun _ => rfl, (fun h => by omega), fun i hi F hF k => ?_⟩
  unfold valB cellV
  rw [if_neg (by omega), if_pos rfl]
  by_cases h2 : (ptAt (pts p) i).op = 2
  · rw [if_pos h2, decide_eq_true_eq]
    constructor
    · exact fun h => .inl ⟨h2, h.2⟩
    · rintro (h | h)
      · exact ⟨by omega, h.2⟩
      · omega
  · rw [if_neg h2]
    by_cases h3 : (ptAt (pts p) i).op = 3 ∨ (ptAt (pts p) i).op = 4 ∨ (ptAt (pts p) i).op = 5
    · rw [if_pos h3]
      constructor
      · exact fun h => .inr ⟨h3, h.2⟩
      · rintro (h | h)
        · exact absurd h.1 h2
        · exact ⟨(hF _ _ h.2).2, h.2⟩
    · rw [if_neg h3]
      constructor
      · exact fun h => by cases h.2
      · rintro (h | h)
        · exact absurd h.1 h2
        · exact absurd h.1 h3
set_option maxRecDepth 100000 in
set_option maxHeartbeats 4000000 in
theorem specMayAlias_any (p : Pr) (a v u : Int) (at' ab : Option Addr) (ct cb : Nat) (w : World) (hT : InAt w Any p.types at') (hB : SlAt w Any p.body ab) (hs : p.types.length ≤ 1048576) (hc : St.count p.body ≤ 1048576) :
    Calls Try.prog 53 #[.agg #[.slice at' p.types.length ct, .slice ab p.body.length cb], .int .i64 a, .int .i64 v, .int .i64 u] w fun e w' => e = .returned (.bool (mayAlias p a v u)) ∧ Gr w w' none := by
  have hlc := count_length p.body
  have hg1 : ∀ o, Gr w (w.alloc o) none := fun o => (Gr.refl _ _).alloc _
  go_enter Try.func53, Try.ntmps53
  go_wp2_with fail
  refine (l3Point_any p a v at' ab ct cb _ (hT.gr0 (hg1 _)) (hB.gr0 (hg1 _)) hs hc).mono ?_
  rintro e w1 ⟨rfl, hg⟩
  have hG1 : Gr w w1 none := (hg1 _).trans0 hg
  have q0 : w1.cell? ⟨w.heap.size, 0, none⟩ = some (.slice at' p.types.length ct) := hg.cell (p := ⟨w.heap.size, 0, none⟩) (cell?_new2 _ _).1 (by simp)
  have q1 : w1.cell? ⟨w.heap.size, 1, none⟩ = some (.slice ab p.body.length cb) := hg.cell (p := ⟨w.heap.size, 1, none⟩) (cell?_new2 _ _).2 (by simp)
  clear hg
  cases h1 : hasPoint p a v with
  | false =>
    have HO := Lib.hid (show mayAlias p a v u = false by unfold mayAlias; rw [h1]; rfl)
    clear h1
    go_wp2_with fail
    go_ret
    rw [HO.out]
    exact ⟨rfl, hG1⟩
  | true =>
    have H1 := Lib.hid h1
    clear h1
    go_wp2_with fail
    refine (l3Point_any p a u at' ab ct cb _ (hT.gr0 hG1) (hB.gr0 hG1) hs hc).mono ?_
    rintro e w2 ⟨rfl, hg⟩
    have hG2 : Gr w w2 none := hG1.trans0 hg
    replace q0 := hg.cell q0 (by simp)
    replace q1 := hg.cell q1 (by simp)
    clear hg
    cases h2 : hasPoint p a u with
    | false =>
      have HO := Lib.hid (show mayAlias p a v u = false by unfold mayAlias; rw [h2, Bool.false_and, Bool.and_false])
      clear h2
      go_wp2_with fail
      go_ret
      rw [HO.out]
      exact ⟨rfl, hG2⟩
    | true =>
      obtain ⟨hv, i, j, rfl, rfl, hi, hj⟩ := hasPoint_pts H1.out
      obtain ⟨_, i', k, e1, rfl, _, hk⟩ := hasPoint_pts h2
      have hcnt := valid_count hv
      have hml : (pts p).length ≤ 61 := pts_len hv
      have HV := Lib.hid hv
      have HKC := Lib.hid (kind_cells hv)
      clear h2 hv e1
      go_upto_region 3 with fail
      go_cut [9] (fun s wx => ∃ (A : Option Addr) (c : Nat) (gs : List Nat), s = .slice A p.types.length c ∧ gs.length = p.types.length ∧ RowsAt 1 wx Any (gs.map (gRow (pts p).length)) A ∧ RowsF wx gs (pts p).length (trkB p (cellV (pts p)) i) ∧ Gr w2 wx none)
      case first =>
        go_region_with (first | (go_at_call 79; refine (l2Points_any p at' ab ct cb _ (by exact hB.gr0 hG2.drew) (by omega) (by unfold maxLen; omega)).mono ?_; rintro e w3 ⟨M, am, c, hM, rfl, -, hg3⟩; have y0 := hg3.cell q0 (by simp); have y1 := hg3.cell q1 (by simp); have hMl : M.length = (pts p).length := (by rw [hM]); have HG3 := Lib.hid (show Gr w2 w3 none from (Gr.refl _ _).drew.trans0 hg3); clear hM hg3) | (go_at_call 107; (try rw [hMl]); refine (l10Flow_any p 0 (pts p).length (cellV (pts p)) at' ab ct cb _ (by exact (hT.gr0 hG2).gr0 HG3.out) (by exact (hB.gr0 hG2).gr0 HG3.out) HV.out HKC.out).mono ?_; rintro e w4 ⟨ao, c4, A, C, G, rfl, hT4, hg4⟩; obtain ⟨bh, oh, rfl, h0⟩ := hT4.head hi; have HT4 := Lib.hid hT4; have HG4 := Lib.hid (HG3.out.trans0 hg4); clear hT4 hg4))
        all_goals
          go_wp2_with fail
          go_meet
          exact ⟨_, _, G i, rfl, (HT4.out.2 i hi).1, (HT4.out.2 i hi).2.1, (HT4.out.2 i hi).2.2, HG4.out⟩
      case rest =>
        rename World => wx
        obtain ⟨A, c, gs, rfl, hgl, hTb, hF, hgx⟩ := hcut
        have hjg : j < gs.length := by rw [hgl]; exact hj
        have hkg : k < gs.length := by rw [hgl]; exact hk
        obtain ⟨bt, ot, rfl, t0⟩ := tab_cell hTb hjg
        obtain ⟨bt', ot', e2, t1⟩ := tab_cell hTb hkg
        cases e2
        have HJ := Lib.hid (hF j hjg)
        have HK := Lib.hid (hF k hkg)
        obtain ⟨g1, hg1'⟩ : ∃ g1, gs[j] = g1 := ⟨_, rfl⟩
        obtain ⟨g2, hg2'⟩ : ∃ g2, gs[k] = g2 := ⟨_, rfl⟩
        rw [hg1'] at t0 HJ
        rw [hg2'] at t1 HK
        have hGx := hG2.trans0 hgx
        obtain ⟨n, hn⟩ : ∃ n, (pts p).length = n := ⟨_, rfl⟩
        have HMA := Lib.hid (show mayAlias p i j k = true ↔ ∃ x, x < n ∧ trkB p (cellV (pts p)) i j x = true ∧ trkB p (cellV (pts p)) i k x = true by
          rw [mayAlias_in HV.out hi hj hk]
          constructor
          · rintro ⟨x, h1, h2⟩
            have := (trk_in HV.out HKC.out (trkB_iff.2 h1)).2
            exact ⟨x, by omega, trkB_iff.2 h1, trkB_iff.2 h2⟩
          · rintro ⟨x, _, h1, h2⟩
            exact ⟨x, trkB_iff.1 h1, trkB_iff.1 h2⟩)
        rw [hn] at t0 t1 HJ HK hml
        clear hgl hTb hF hjg hkg hg1' hg2' q0 q1 hn
        go_wp2_with fail
        go_loop [10] (fun s => ∃ x : Nat, x ≤ n ∧ s = .int .i64 x ∧ ∀ y, y < x → ¬ (trkB p (cellV (pts p)) i j y = true ∧ trkB p (cellV (pts p)) i k y = true)) (fun s => n - (intOf s).toNat)
        case atStart => exact ⟨0, Nat.zero_le _, rfl, fun y hy => absurd hy (by omega)⟩
        case round =>
          obtain ⟨x, hx, rfl, hN⟩ := hrel
          have HN := Lib.hid hN
          clear hN
          by_cases hlt : x < n
          · have c1 := HJ.out.cell hlt
            have c2 := HK.out.cell hlt
            obtain ⟨b1, hb1⟩ : ∃ b1, trkB p (cellV (pts p)) i j x = b1 := ⟨_, rfl⟩
            obtain ⟨b2, hb2⟩ : ∃ b2, trkB p (cellV (pts p)) i k x = b2 := ⟨_, rfl⟩
            rw [hb1] at c1
            rw [hb2] at c2
            have HB1 := Lib.hid hb1
            have HB2 := Lib.hid hb2
            clear hb1 hb2
            cases b1 with
            | false =>
              have HNN := Lib.hid (show ∀ y, y < x + 1 → ¬ (trkB p (cellV (pts p)) i j y = true ∧ trkB p (cellV (pts p)) i k y = true) from fun y hy h => by
                by_cases e : y = x
                · subst e; rw [HB1.out] at h; cases h.1
                · exact HN.out y (by omega) h)
              go_wp2_with fail
              go_round
              case rel => exact ⟨x + 1, by omega, by go_num, HNN.out⟩
              case measure => simp [intOf]; omega
            | true =>
              cases b2 with
              | false =>
                have HNN := Lib.hid (show ∀ y, y < x + 1 → ¬ (trkB p (cellV (pts p)) i j y = true ∧ trkB p (cellV (pts p)) i k y = true) from fun y hy h => by
                  by_cases e : y = x
                  · subst e; rw [HB2.out] at h; cases h.2
                  · exact HN.out y (by omega) h)
                go_wp2_with fail
                go_round
                case rel => exact ⟨x + 1, by omega, by go_num, HNN.out⟩
                case measure => simp [intOf]; omega
              | true =>
                have HO := Lib.hid (HMA.out.2 ⟨x, hlt, HB1.out, HB2.out⟩)
                go_wp2_with fail
                go_ret
                rw [HO.out]
                exact ⟨rfl, hGx⟩
          · obtain rfl : x = n := by omega
            have HO := Lib.hid (show mayAlias p i j k = false by
              cases h : mayAlias p i j k with
              | false => rfl
              | true => obtain ⟨y, hy, h1, h2⟩ := HMA.out.1 h; exact absurd ⟨h1, h2⟩ (HN.out y hy))
            go_wp2_with fail
            go_ret
            rw [HO.out]
            exact ⟨rfl, hGx⟩
end Go.Proofs.Ytdnhinkjmjpnnaa

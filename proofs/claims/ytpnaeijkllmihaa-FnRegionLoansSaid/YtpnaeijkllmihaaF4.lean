/- Walks of RegionOf and Outlives of the reference. -/
import Derived.Test.YtpnaeijkllmihaaF3

namespace Go.Proofs.Ytpnaeijkllmihaa

open Go.RowKit

set_option maxRecDepth 100000 in
set_option maxHeartbeats 1000000 in
theorem specRegionOf_any (p : Pr) (v : Int) (at' ab : Option Addr) (ct cb : Nat) (w : World) (hT : InAt w Any p.types at') (hB : SlAt w Any p.body ab) (hs : p.types.length ≤ 1048576) (hc : St.count p.body ≤ 1048576) :
    Calls Try.prog 42 #[.agg #[.slice at' p.types.length ct, .slice ab p.body.length cb], .int .i64 v] w (HandI (regionOf p v) w) := by
  have hlc := count_length p.body
  have hg1 : ∀ o, Gr w (w.alloc o) none := fun o => (Gr.refl _ _).alloc _
  go_enter Try.func42, Try.ntmps42
  go_wp2_with fail
  refine (validS_any p at' ab ct cb _ (hT.gr0 (hg1 _)) (hB.gr0 (hg1 _)) hs hc (by omega)).mono ?_
  rw [valid_same]
  rintro e w1 ⟨rfl, hg⟩
  have hG1 : Gr w w1 none := (hg1 _).trans0 hg
  have q0 : w1.cell? ⟨w.heap.size, 0, none⟩ = some (.slice at' p.types.length ct) := hg.cell (p := ⟨w.heap.size, 0, none⟩) (cell?_new2 _ _).1 (by simp)
  have q1 : w1.cell? ⟨w.heap.size, 1, none⟩ = some (.slice ab p.body.length cb) := hg.cell (p := ⟨w.heap.size, 1, none⟩) (cell?_new2 _ _).2 (by simp)
  clear hg
  cases hiv : isVar p v with
  | false =>
    have HO := Lib.hid (regionOf_out hiv)
    cases hv : validP p with
    | false =>
      clear hv hiv
      go_wp2_with fail
      go_ret
      rw [HO.out]
      exact Lst.hand (Lst.empty hG1.size hG1.size (heap1_0 _ _)) rfl (hG1.alloc _)
    | true =>
      unfold isVar at hiv
      rw [hv, Bool.true_and, Bool.and_eq_false_iff, decide_eq_false_iff_not, decide_eq_false_iff_not] at hiv
      clear hv
      by_cases h0 : v < 0
      · clear hiv
        go_wp2_with fail
        go_ret
        rw [HO.out]
        exact Lst.hand (Lst.empty hG1.size hG1.size (heap1_0 _ _)) rfl (hG1.alloc _)
      · have h1 : (p.types.length : Int) ≤ v := by omega
        clear hiv
        go_wp2_with fail
        go_ret
        rw [HO.out]
        exact Lst.hand (Lst.empty hG1.size hG1.size (heap1_0 _ _)) rfl (hG1.alloc _)
  | true =>
    obtain ⟨hv, j, rfl, hj⟩ := isVar_nat hiv
    have HV := Lib.hid hv
    have HO := Lib.hid (regionOf_in hv hj)
    clear hiv
    go_wp2_with fail
    refine (l9Regions_any p at' ab ct cb _ (hT.gr0 hG1) (hB.gr0 hG1) HV.out (by omega)).mono ?_
    rintro e w3 ⟨a3, c3, gs, hgl, rfl, hTb, hRF, hg3⟩
    have hj2 : j < gs.length := by omega
    obtain ⟨bt, ot, rfl, ct0⟩ := tab_cell hTb hj2
    have HR := Lib.hid (hRF j hj2)
    have hG3 := hG1.trans0 hg3
    clear hTb hRF hv
    obtain ⟨gj, hgj⟩ : ∃ gj, gs[j] = gj := ⟨_, rfl⟩
    rw [hgj] at ct0 HR
    clear hgj
    go_wp2_with fail
    refine (l3Numbers_any gj (ptsOf p).length (ptsOf p).length _ _ HR.out (by have := ptsOf_le p; omega)).mono ?_
    rw [← HO.out]
    intro e w4 hh
    have hhh := HandI.aft hh hG3
    obtain ⟨a4, c4, rfl, -⟩ := hh
    have HH := Lib.hid hhh
    clear hhh
    go_wp2_with fail
    go_ret
    exact HH.out

/-- Up to k, all that is in the region of u is in that of v. -/
def SubTo (p : Pr) (i j k : Nat) : Prop := ∀ x, x < k → regB p j x = true → regB p i x = true
set_option maxRecDepth 100000 in
set_option maxHeartbeats 2000000 in
theorem specOutlives_any (p : Pr) (v u : Int) (at' ab : Option Addr) (ct cb : Nat) (w : World) (hT : InAt w Any p.types at') (hB : SlAt w Any p.body ab) (hs : p.types.length ≤ 1048576) (hc : St.count p.body ≤ 1048576) :
    Calls Try.prog 18 #[.agg #[.slice at' p.types.length ct, .slice ab p.body.length cb], .int .i64 v, .int .i64 u] w fun e w' => e = .returned (.bool (outlives p v u)) ∧ Gr w w' none := by
  have hlc := count_length p.body
  have hg1 : ∀ o, Gr w (w.alloc o) none := fun o => (Gr.refl _ _).alloc _
  go_enter Try.func18, Try.ntmps18
  go_wp2_with fail
  refine (validS_any p at' ab ct cb _ (hT.gr0 (hg1 _)) (hB.gr0 (hg1 _)) hs hc (by omega)).mono ?_
  rw [valid_same]
  rintro e w1 ⟨rfl, hg⟩
  have hG1 : Gr w w1 none := (hg1 _).trans0 hg
  have q0 : w1.cell? ⟨w.heap.size, 0, none⟩ = some (.slice at' p.types.length ct) := hg.cell (p := ⟨w.heap.size, 0, none⟩) (cell?_new2 _ _).1 (by simp)
  have q1 : w1.cell? ⟨w.heap.size, 1, none⟩ = some (.slice ab p.body.length cb) := hg.cell (p := ⟨w.heap.size, 1, none⟩) (cell?_new2 _ _).2 (by simp)
  clear hg
  cases hv : validP p with
  | false =>
    have HO := Lib.hid (outlives_out (p := p) (v := v) (w := u) (.inl (by unfold isVar; rw [hv]; rfl)))
    clear hv
    go_wp2_with fail
    go_ret
    rw [HO.out]
    exact ⟨rfl, hG1⟩
  | true =>
    by_cases h0 : v < 0
    · have HO := Lib.hid (outlives_out (p := p) (v := v) (w := u) (.inl (by unfold isVar; rw [decide_eq_false (show ¬ 0 ≤ v by omega)]; simp)))
      have d0 : decide (v < 0) = true := decide_eq_true h0
      clear hv h0
      go_wp2_with fail
      go_ret
      rw [HO.out]
      exact ⟨rfl, hG1⟩
    by_cases h1 : (p.types.length : Int) ≤ v
    · have HO := Lib.hid (outlives_out (p := p) (v := v) (w := u) (.inl (by unfold isVar; rw [decide_eq_false (show ¬ v < (p.types.length : Int) by omega)]; simp)))
      have d0 : decide (v < 0) = false := decide_eq_false h0
      have d1 : decide ((p.types.length : Int) ≤ v) = true := decide_eq_true h1
      clear hv h0 h1
      go_wp2_with fail
      go_ret
      rw [HO.out]
      exact ⟨rfl, hG1⟩
    by_cases h2 : u < 0
    · have HO := Lib.hid (outlives_out (p := p) (v := v) (w := u) (.inr (by unfold isVar; rw [decide_eq_false (show ¬ 0 ≤ u by omega)]; simp)))
      have d0 : decide (v < 0) = false := decide_eq_false h0
      have d1 : decide ((p.types.length : Int) ≤ v) = false := decide_eq_false h1
      have d2 : decide (u < 0) = true := decide_eq_true h2
      clear hv h0 h1 h2
      go_wp2_with fail
      go_ret
      rw [HO.out]
      exact ⟨rfl, hG1⟩
    by_cases h3 : (p.types.length : Int) ≤ u
    · have HO := Lib.hid (outlives_out (p := p) (v := v) (w := u) (.inr (by unfold isVar; rw [decide_eq_false (show ¬ u < (p.types.length : Int) by omega)]; simp)))
      have d0 : decide (v < 0) = false := decide_eq_false h0
      have d1 : decide ((p.types.length : Int) ≤ v) = false := decide_eq_false h1
      have d2 : decide (u < 0) = false := decide_eq_false h2
      have d3 : decide ((p.types.length : Int) ≤ u) = true := decide_eq_true h3
      clear hv h0 h1 h2 h3
      go_wp2_with fail
      go_ret
      rw [HO.out]
      exact ⟨rfl, hG1⟩
    have d0 : decide (v < 0) = false := decide_eq_false h0
    have d1 : decide ((p.types.length : Int) ≤ v) = false := decide_eq_false h1
    have d2 : decide (u < 0) = false := decide_eq_false h2
    have d3 : decide ((p.types.length : Int) ≤ u) = false := decide_eq_false h3
    obtain ⟨i, rfl⟩ := Int.eq_ofNat_of_zero_le (show 0 ≤ v by omega)
    obtain ⟨j, rfl⟩ := Int.eq_ofNat_of_zero_le (show 0 ≤ u by omega)
    have hi : i < p.types.length := by omega
    have hj : j < p.types.length := by omega
    have HV := Lib.hid hv
    clear h0 h1 h2 h3 hv
    go_wp2_with fail
    refine (l9Regions_any p at' ab ct cb _ (hT.gr0 hG1) (hB.gr0 hG1) HV.out (by omega)).mono ?_
    rintro e w3 ⟨a3, c3, gs, hgl, rfl, hTb, hRF, hg3⟩
    have hj2 : j < gs.length := by omega
    have hi2 : i < gs.length := by omega
    obtain ⟨bt, ot, rfl, cj0⟩ := tab_cell hTb hj2
    obtain ⟨bt', ot', ea, ci0⟩ := tab_cell hTb hi2
    cases ea
    have HRj := Lib.hid (hRF j hj2)
    have HRi := Lib.hid (hRF i hi2)
    have hG3 := hG1.trans0 hg3
    clear hTb hRF
    obtain ⟨gj, hgj⟩ : ∃ gj, gs[j] = gj := ⟨_, rfl⟩
    obtain ⟨gi, hgi⟩ : ∃ gi, gs[i] = gi := ⟨_, rfl⟩
    rw [hgj] at cj0 HRj
    rw [hgi] at ci0 HRi
    clear hgj hgi
    have hml := ptsOf_le p
    go_wp2_with fail
    go_loop [8] (fun s => ∃ k : Nat, k ≤ (ptsOf p).length ∧ s = .int .i64 k ∧ SubTo p i j k) (fun s => (ptsOf p).length - (intOf s).toNat)
    case atStart => exact ⟨0, by omega, rfl, fun x hx => absurd hx (by omega)⟩
    case round =>
      obtain ⟨k, hk, rfl, hS⟩ := hrel
      have HS := Lib.hid hS
      clear hS
      by_cases hlt : k < (ptsOf p).length
      · have cj := HRj.out.cell hlt
        have ci := HRi.out.cell hlt
        cases hbj : regB p j k with
        | false =>
          have HN := Lib.hid (show SubTo p i j (k + 1) from fun x hx h => by
            by_cases e : x = k
            · subst e; rw [hbj] at h; cases h
            · exact HS.out x (by omega) h)
          rw [hbj] at cj
          clear hbj
          go_wp2_with fail
          go_round
          case rel => exact ⟨k + 1, by omega, by go_num, HN.out⟩
          case measure => simp [intOf]; omega
        | true =>
          cases hbi : regB p i k with
          | true =>
            have HN := Lib.hid (show SubTo p i j (k + 1) from fun x hx h => by
              by_cases e : x = k
              · subst e; exact hbi
              · exact HS.out x (by omega) h)
            rw [hbj] at cj
            rw [hbi] at ci
            clear hbj hbi
            go_wp2_with fail
            go_round
            case rel => exact ⟨k + 1, by omega, by go_num, HN.out⟩
            case measure => simp [intOf]; omega
          | false =>
            have HO := Lib.hid (show outlives p i j = false by
              cases ho : outlives p i j with
              | false => rfl
              | true => have := (outlives_in HV.out hi hj).1 ho k hbj; rw [hbi] at this; cases this)
            rw [hbj] at cj
            rw [hbi] at ci
            clear hbj hbi
            go_wp2_with fail
            go_ret
            rw [HO.out]
            exact ⟨rfl, hG3⟩
      · have HO := Lib.hid (show outlives p i j = true from (outlives_in HV.out hi hj).2 fun x hx => HS.out x (by have := (regB_lt hx).1; omega) hx)
        go_wp2_with fail
        go_ret
        rw [HO.out]
        exact ⟨rfl, hG3⟩
end Go.Proofs.Ytpnaeijkllmihaa

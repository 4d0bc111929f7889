/- What is known of loans, as the reference keeps it: walks of l4Lose and l4Within. -/
import Derived.Test.YtadlnjglpigjmaaEN

import Derived.Test.YtadlnjglpigjmaaEL

namespace Go.Proofs.Ytadlnjglpigjmaa

open Go.RowKit

/-- Is k a loan from the variable v? -/
def fromB (L : List Pt) (v : Int) (k : Nat) : Bool := lnB L k && decide ((ptAt L k).y = v)
set_option maxRecDepth 100000 in
set_option maxHeartbeats 4000000 in
theorem l4Lose_any (L : List Pt) (am : Option Addr) (ca : Nat) (v : Int) (f : Value) (gp pc n : Nat) (P : Nat → Bool) (w : World) (hR : PtsAt w L am) (hn : L.length = n) (hn1 : n ≤ 100) (hP : RowE w gp n pc P) (hne : ∀ b, ob am = some b → b ≠ gp) :
    Calls Try.prog 130 #[.agg #[f, .slice (some ⟨gp, 0, none⟩) n pc], .slice am n ca, .int .i64 v] w fun e w' => e = .returned (.tuple #[]) ∧ RowE w' gp n pc (fun k => P k && !fromB L v k) ∧ Gr w w' (some gp) := by
  have HR := Lib.hid hR
  have HN := Lib.hid hn
  have HNE := Lib.hid hne
  have hE := heap1_0 w (.cells #[f, .slice (some ⟨gp, 0, none⟩) n pc] 91)
  have hgA : Gr w (w.alloc (.cells #[f, .slice (some ⟨gp, 0, none⟩) n pc] 91)) none := (Gr.refl _ _).alloc _
  obtain ⟨wA, hwA⟩ : ∃ wA, wA = w.alloc (.cells #[f, .slice (some ⟨gp, 0, none⟩) n pc] 91) := ⟨_, rfl⟩
  have hgl := hP.lt
  go_enter Try.func130, Try.ntmps130
  go_upto_region 1 with fail
  rw [← hwA] at hE hgA ⊢
  have HE := Lib.hid hE
  have HGA := Lib.hid hgA
  have HPA := Lib.hid (hP.gr0 hgA)
  clear hwA hE hgA hP hR hn hne
  go_wp2_with fail
  go_loopw [6] (fun s wr => ∃ k : Nat, k ≤ n ∧ s = .int .i64 k ∧ RowE wr gp n pc (fun j => P j && !(decide (j < k) && fromB L v j)) ∧ Gr wA wr (some gp)) (fun s _ => n - (intOf s).toNat)
  case atStart => exact ⟨0, Nat.zero_le _, rfl, HPA.out.congr (fun j _ => by simp), Gr.refl _ _⟩
  case round =>
    obtain ⟨k, hk, rfl, hRw, hg⟩ := hrel
    have HRW := Lib.hid hRw
    have HG := Lib.hid hg
    have s1 : wr.cell? ⟨w.heap.size, 1, none⟩ = some (.slice (some ⟨gp, 0, none⟩) n pc) := hg.cell (p := ⟨w.heap.size, 1, none⟩) (cell_of_row _ _ _ _ _ _ HE.out) (by simp; omega)
    by_cases hlt : k < n
    · have hkL : k < L.length := by rw [HN.out]; exact hlt
      obtain ⟨b, po, rfl, an, cn, c0, c1, c2, c3, c4, -, -⟩ := HR.out k hkL
      have hbne := HNE.out b rfl
      replace c0 := (HGA.out.weaken.trans hg (fun r e => .inl e)).cell c0 (by simp; omega)
      replace c2 := (HGA.out.weaken.trans hg (fun r e => .inl e)).cell c2 (by simp; omega)
      obtain ⟨q, eq⟩ : ∃ q, L[k] = q := ⟨_, rfl⟩
      rw [eq] at c0 c2
      have hpa : ptAt L k = q := (ptAt_get hkL).trans eq
      have p0 := hRw.cell hlt
      have pf := hRw.free k
      obtain ⟨z, hz⟩ : ∃ z, (P k && !(decide (k < k) && fromB L v k)) = z := ⟨_, rfl⟩
      rw [hz] at p0
      have HFB := Lib.hid (show fromB L v k = ((q.op == 4 || q.op == 5) && decide (q.y = v)) by unfold fromB lnB; rw [hpa])
      clear c1 c3 c4 eq hpa hRw hg hz
      by_cases hT : (q.op = 4 ∨ q.op = 5) ∧ q.y = v
      · obtain ⟨ho, hyv⟩ := hT
        have HN2 := Lib.hid (show RowE (wr.setCell ⟨gp, k, none⟩ (.bool false)) gp n pc (fun j => P j && !(decide (j < k + 1) && fromB L v j)) from (HRW.out.set k false).congr fun j _ => by
          by_cases e : j = k
          · subst e
            have : fromB L v j = true := by rw [HFB.out]; rcases ho with h | h <;> simp [h, hyv]
            simp [this]
          · have : (j < k + 1) = (j < k) := by apply propext; omega
            simp [e, this])
        have hyb : (q.y == v) = true := by simp [hyv]
        rcases ho with h4 | h5
        · have e4 : (q.op == 4) = true := by simp [h4]
          go_wp2_with fail
          go_roundw
          case rel => exact ⟨k + 1, by omega, by go_num, HN2.out, HG.out.setOwn rfl _⟩
          case measure => simp [intOf]; omega
        · have e4 : (q.op == 4) = false := by simp [h5]
          have e5 : (q.op == 5) = true := by simp [h5]
          go_wp2_with fail
          go_roundw
          case rel => exact ⟨k + 1, by omega, by go_num, HN2.out, HG.out.setOwn rfl _⟩
          case measure => simp [intOf]; omega
      · have HN2 := Lib.hid (show RowE wr gp n pc (fun j => P j && !(decide (j < k + 1) && fromB L v j)) from HRW.out.congr fun j _ => by
          by_cases e : j = k
          · subst e
            have : fromB L v j = false := by
              rw [HFB.out]
              cases h1 : (q.op == 4 || q.op == 5) with
              | false => rfl
              | true =>
                have h2 : q.op = 4 ∨ q.op = 5 := by simpa using h1
                rw [Bool.true_and]
                exact decide_eq_false (fun h => hT ⟨h2, h⟩)
            simp [this]
          · have : (j < k + 1) = (j < k) := by apply propext; omega
            simp [this])
        by_cases h4 : q.op = 4
        · have e4 : (q.op == 4) = true := by simp [h4]
          have hyb : (q.y == v) = false := beq_eq_false_iff_ne.2 (fun h => hT ⟨.inl h4, h⟩)
          go_wp2_with fail
          go_roundw
          case rel => exact ⟨k + 1, by omega, by go_num, HN2.out, HG.out⟩
          case measure => simp [intOf]; omega
        · have e4 : (q.op == 4) = false := beq_eq_false_iff_ne.2 h4
          by_cases h5 : q.op = 5
          · have e5 : (q.op == 5) = true := by simp [h5]
            have hyb : (q.y == v) = false := beq_eq_false_iff_ne.2 (fun h => hT ⟨.inr h5, h⟩)
            go_wp2_with fail
            go_roundw
            case rel => exact ⟨k + 1, by omega, by go_num, HN2.out, HG.out⟩
            case measure => simp [intOf]; omega
          · have e5 : (q.op == 5) = false := beq_eq_false_iff_ne.2 h5
            go_wp2_with fail
            go_roundw
            case rel => exact ⟨k + 1, by omega, by go_num, HN2.out, HG.out⟩
            case measure => simp [intOf]; omega
    · obtain rfl : k = n := by omega
      clear hRw hg
      go_wp2_with fail
      go_end0
      exact ⟨rfl, HRW.out.congr (fun j hj => by simp [hj]), HGA.out.weaken.trans HG.out (fun r e => .inl e)⟩
/-- Is all that the one knows known to the other? -/
def wiB (m n : Nat) (F : Nat → Nat → Bool) (P : Nat → Bool) (F' : Nat → Nat → Bool) (P' : Nat → Bool) : Bool := (List.range n).all fun i => (!P i || P' i) && (List.range m).all fun v => !F v i || F' v i
theorem wiB_iff {m n : Nat} {F F' : Nat → Nat → Bool} {P P' : Nat → Bool} : wiB m n F P F' P' = true ↔ ∀ i, i < n → (P i = true → P' i = true) ∧ ∀ v, v < m → F v i = true → F' v i = true := by
  unfold wiB
  rw [List.all_eq_true]
  constructor
  · intro h i hi
    have h1 := h i (List.mem_range.2 hi)
    rw [Bool.and_eq_true, List.all_eq_true] at h1
    refine ⟨fun hp => ?_, fun v hv hf => ?_⟩
    · have := h1.1; rw [hp] at this; simpa using this
    · have := h1.2 v (List.mem_range.2 hv); rw [hf] at this; simpa using this
  · intro h i hi
    have h1 := h i (List.mem_range.1 hi)
    rw [Bool.and_eq_true, List.all_eq_true]
    refine ⟨?_, fun v hv => ?_⟩
    · cases hp : P i with
      | false => rfl
      | true => rw [h1.1 hp]; rfl
    · cases hf : F v i with
      | false => rfl
      | true => rw [h1.2 v (List.mem_range.1 hv) hf]; rfl
set_option maxRecDepth 100000 in
set_option maxHeartbeats 4000000 in
theorem l4Within_any (lo lo' m n : Nat) (fa fb : Option Addr) (ca cb gp pc gq qc : Nat) (ha hb : List (Nat × Nat)) (F F' : Nat → Nat → Bool) (P P' : Nat → Bool) (w : World) (hA : StE w lo m n fa ha gp pc F P) (hB : StE w lo' m n fb hb gq qc F' P') (hm : m ≤ 6) (hn : n ≤ 100) :
    Calls Try.prog 113 #[.agg #[.slice fa m ca, .slice (some ⟨gp, 0, none⟩) n pc], .agg #[.slice fb m cb, .slice (some ⟨gq, 0, none⟩) n qc]] w fun e w' => e = .returned (.bool (wiB m n F P F' P')) ∧ Gr w w' none := by
  have hgW : Gr w ((w.alloc (.cells #[.slice fa m ca, .slice (some ⟨gp, 0, none⟩) n pc] 91)).alloc (.cells #[.slice fb m cb, .slice (some ⟨gq, 0, none⟩) n qc] 91)) none := ((Gr.refl _ _).alloc _).alloc _
  have hE0 := heap2_0 w (.cells #[.slice fa m ca, .slice (some ⟨gp, 0, none⟩) n pc] 91) (.cells #[.slice fb m cb, .slice (some ⟨gq, 0, none⟩) n qc] 91)
  have hE1 := heap2_1 w (.cells #[.slice fa m ca, .slice (some ⟨gp, 0, none⟩) n pc] 91) (.cells #[.slice fb m cb, .slice (some ⟨gq, 0, none⟩) n qc] 91)
  obtain ⟨wA, hwA⟩ : ∃ wA, wA = (w.alloc (.cells #[.slice fa m ca, .slice (some ⟨gp, 0, none⟩) n pc] 91)).alloc (.cells #[.slice fb m cb, .slice (some ⟨gq, 0, none⟩) n qc] 91) := ⟨_, rfl⟩
  go_enter Try.func113, Try.ntmps113
  go_upto_region 1 with fail
  rw [← hwA] at hE0 hE1 hgW ⊢
  have a0 : wA.cell? ⟨w.heap.size, 0, none⟩ = some (.slice fa m ca) := cell_of_row _ _ _ _ _ _ hE0
  have a1 : wA.cell? ⟨w.heap.size, 1, none⟩ = some (.slice (some ⟨gp, 0, none⟩) n pc) := cell_of_row _ _ _ _ _ _ hE0
  have b0 : wA.cell? ⟨w.heap.size + 1, 0, none⟩ = some (.slice fb m cb) := cell_of_row _ _ _ _ _ _ hE1
  have b1 : wA.cell? ⟨w.heap.size + 1, 1, none⟩ = some (.slice (some ⟨gq, 0, none⟩) n qc) := cell_of_row _ _ _ _ _ _ hE1
  have HG := Lib.hid hgW
  have HA := Lib.hid (hA.gr0 hgW)
  have HB := Lib.hid (hB.gr0 hgW)
  clear hwA hE0 hE1 hgW hA hB
  go_wp2_with fail
  go_loop [5] (fun s => ∃ i : Nat, i ≤ n ∧ s = .int .i64 i ∧ ∀ i', i' < i → (P i' = true → P' i' = true) ∧ ∀ v, v < m → F v i' = true → F' v i' = true) (fun s => n - (intOf s).toNat)
  case atStart => exact ⟨0, Nat.zero_le _, rfl, fun i' h => absurd h (by omega)⟩
  case round =>
    obtain ⟨i, hi, rfl, hall⟩ := hrel
    have HALL := Lib.hid hall
    clear hall
    by_cases hlt : i < n
    · have p0 := HA.out.2.2.2.2.1.cell hlt
      have p1 := HB.out.2.2.2.2.1.cell hlt
      obtain ⟨x, hx⟩ : ∃ x, P i = x := ⟨_, rfl⟩
      obtain ⟨y, hy⟩ : ∃ y, P' i = y := ⟨_, rfl⟩
      rw [hx] at p0
      rw [hy] at p1
      have HX := Lib.hid hx
      have HY := Lib.hid hy
      clear hx hy
      by_cases hbad : x = true ∧ y = false
      · obtain ⟨rfl, rfl⟩ := hbad
        have HF := Lib.hid (show wiB m n F P F' P' = false by
          cases h : wiB m n F P F' P' with
          | false => rfl
          | true => have := (wiB_iff.1 h i hlt).1 HX.out; rw [HY.out] at this; cases this)
        go_wp2_with fail
        go_ret
        exact ⟨ret_bool HF.out.symm, HG.out⟩
      · have HPI := Lib.hid (show P i = true → P' i = true from fun h => by
          rw [HX.out] at h
          rw [HY.out]
          cases y with
          | true => rfl
          | false => exact absurd ⟨h, rfl⟩ hbad)
        cases x
        case' true =>
          obtain rfl : y = true := by
            cases y with
            | true => rfl
            | false => exact absurd ⟨rfl, rfl⟩ hbad
        all_goals
          clear hbad
          go_wp2_with fail
          go_loop [6] (fun s => ∃ v : Nat, v ≤ m ∧ s = .int .i64 v ∧ ∀ v', v' < v → F v' i = true → F' v' i = true) (fun s => m - (intOf s).toNat)
          case atStart => exact ⟨0, Nat.zero_le _, rfl, fun v' h => absurd h (by omega)⟩
          case round =>
            obtain ⟨v, hv, rfl, hallv⟩ := hrel
            have HALV := Lib.hid hallv
            clear hallv
            by_cases hvm : v < m
            · have hva : v < ha.length := by rw [HA.out.1]; exact hvm
              have hvb : v < hb.length := by rw [HB.out.1]; exact hvm
              obtain ⟨ba, oa, rfl, f0⟩ := hsE_cell HA.out.2.1 hva
              obtain ⟨bb, ob', rfl, g0⟩ := hsE_cell HB.out.2.1 hvb
              have f1 := (HA.out.2.2.1 v hva).2.cell hlt
              have g1 := (HB.out.2.2.1 v hvb).2.cell hlt
              obtain ⟨ka, hka⟩ : ∃ ka, ha[v] = ka := ⟨_, rfl⟩
              obtain ⟨kb, hkb⟩ : ∃ kb, hb[v] = kb := ⟨_, rfl⟩
              obtain ⟨ka1, ka2⟩ := ka
              obtain ⟨kb1, kb2⟩ := kb
              rw [hka] at f0 f1
              rw [hkb] at g0 g1
              obtain ⟨x2, hx⟩ : ∃ x2, F v i = x2 := ⟨_, rfl⟩
              obtain ⟨y2, hy⟩ : ∃ y2, F' v i = y2 := ⟨_, rfl⟩
              rw [hx] at f1
              rw [hy] at g1
              have HX2 := Lib.hid hx
              have HY2 := Lib.hid hy
              clear hx hy hka hkb
              by_cases hbad : x2 = true ∧ y2 = false
              · obtain ⟨rfl, rfl⟩ := hbad
                have HF := Lib.hid (show wiB m n F P F' P' = false by
                  cases h : wiB m n F P F' P' with
                  | false => rfl
                  | true => have := (wiB_iff.1 h i hlt).2 v hvm HX2.out; rw [HY2.out] at this; cases this)
                go_wp2_with fail
                go_ret
                exact ⟨ret_bool HF.out.symm, HG.out⟩
              · have HN := Lib.hid (show ∀ v', v' < v + 1 → F v' i = true → F' v' i = true from fun v' hv' h => by
                  by_cases e : v' = v
                  · subst e
                    rw [HX2.out] at h
                    rw [HY2.out]
                    cases y2 with
                    | true => rfl
                    | false => exact absurd ⟨h, rfl⟩ hbad
                  · exact HALV.out v' (by omega) h)
                cases x2
                case' true =>
                  obtain rfl : y2 = true := by
                    cases y2 with
                    | true => rfl
                    | false => exact absurd ⟨rfl, rfl⟩ hbad
                all_goals
                  clear hbad
                  go_wp2_with fail
                  go_round
                  case rel => exact ⟨v + 1, by omega, by go_num, HN.out⟩
                  case measure => simp [intOf]; omega
            · obtain rfl : v = m := by omega
              have HN := Lib.hid (show ∀ i', i' < i + 1 → (P i' = true → P' i' = true) ∧ ∀ u, u < v → F u i' = true → F' u i' = true from fun i' hi' => by
                by_cases e : i' = i
                · subst e; exact ⟨HPI.out, HALV.out⟩
                · exact HALL.out i' (by omega))
              go_wp2_with fail
              go_round
              case rel => exact ⟨i + 1, by omega, by go_num, HN.out⟩
              case measure => simp [intOf]; omega
    · obtain rfl : i = n := by omega
      have HF := Lib.hid (wiB_iff.2 HALL.out)
      go_wp2_with fail
      go_ret
      exact ⟨ret_bool HF.out.symm, HG.out⟩
end Go.Proofs.Ytadlnjglpigjmaa

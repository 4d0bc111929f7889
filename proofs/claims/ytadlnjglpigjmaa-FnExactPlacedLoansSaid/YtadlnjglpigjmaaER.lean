/- What is known of loans before all points: the walk of l4Flow of the reference. -/
import Derived.Test.YtadlnjglpigjmaaEQ

namespace Go.Proofs.Ytadlnjglpigjmaa

open Go.RowKit

theorem StE.row {w : World} {lo m n : Nat} {fa : Option Addr} {hs : List (Nat × Nat)} {gp pc : Nat} {F : Nat → Nat → Bool} {P : Nat → Bool} (h : StE w lo m n fa hs gp pc F P) {g : Nat} (hg : g ∈ gp :: hs.map Prod.fst) : lo ≤ g ∧ g < w.heap.size := by
  obtain ⟨h1, h2, h3, h4, h5, h6, h7, h8⟩ := h
  rcases List.mem_cons.1 hg with rfl | hm
  · exact ⟨h4, h5.lt⟩
  · obtain ⟨x, hx, rfl⟩ := List.mem_map.1 hm
    exact ⟨h3.lo x hx, h3.lt x hx⟩
theorem states_grow {w w1 w4 : World} {b0 base cap k m n : Nat} {ao fa : Option Addr} {A : Nat → Option Addr} {HS : Nat → List (Nat × Nat)} {GP PC : Nat → Nat} {hs : List (Nat × Nat)} {gp pc : Nat} {R : Nat → List Value}
    (hS : ∀ i, i < k → StE w 0 m n (A i) (HS i) (GP i) (PC i) (fun _ _ => false) (fun _ => false)) (hL : LstR 91 2 w b0 base ((List.range k).map R) ao k cap) (hw : Gr w w1 none) (hN : StE w1 w.heap.size m n fa hs gp pc (fun _ _ => false) (fun _ => false)) (hg : Gr w1 w4 (ob ao)) :
    ∀ i, i < k + 1 → StE w4 0 m n (if i = k then fa else A i) (if i = k then hs else HS i) (if i = k then gp else GP i) (if i = k then pc else PC i) (fun _ _ => false) (fun _ => false) := by
  intro i hi
  by_cases e : i = k
  · simp only [if_pos e]
    refine (hN.gr hg (fun b hb h => ?_) (fun x hx h => ?_) (fun h => ?_)).lo0
    · have := hL.lt b h; have := (hN.2.2.2.2.2.2.2 b hb).1; omega
    · have := hL.lt _ h; have := hN.2.2.1.lo x hx; omega
    · have := hL.lt _ h; have := hN.2.2.2.1; omega
  · simp only [if_neg e]
    have hik : i < k := by omega
    have hne : (List.range k).map R ≠ [] := fun h => by
      have h2 := congrArg List.length (List.map_eq_nil_iff.1 h)
      rw [List.length_range] at h2
      simp only [List.length_nil] at h2
      omega
    refine ((hS i hik).gr0 hw).gr hg (fun b hb h => ?_) (fun x hx h => ?_) (fun h => ?_)
    · obtain ⟨cs, hc⟩ := hL.typ hne h
      obtain ⟨cs', hc'⟩ := ((hS i hik).2.2.2.2.2.2.2 b hb).2
      rw [hc] at hc'
      simp at hc'
    · obtain ⟨cs, hc⟩ := hL.typ hne h
      obtain ⟨j, hj, rfl⟩ := List.getElem_of_mem hx
      exact ((hS i hik).2.2.1 j hj).2.off' hc (by decide) rfl
    · obtain ⟨cs, hc⟩ := hL.typ hne h
      exact (hS i hik).2.2.2.2.1.off' hc (by decide) rfl
theorem sep_grow {k lo : Nat} {HS : Nat → List (Nat × Nat)} {GP : Nat → Nat} {hs : List (Nat × Nat)} {gp : Nat} (h : SepS HS GP k) (hlt : ∀ i, i < k → ∀ g ∈ rowsO HS GP i, g < lo) (hnew : ∀ g ∈ gp :: hs.map Prod.fst, lo ≤ g) : SepS (fun i => if i = k then hs else HS i) (fun i => if i = k then gp else GP i) (k + 1) := by
  intro i j hi hj hij g hg hg2
  unfold rowsO at hg hg2
  by_cases e1 : i = k
  · have e2 : j ≠ k := by omega
    simp only [if_pos e1] at hg
    simp only [if_neg e2] at hg2
    have := hlt j (by omega) g hg2
    have := hnew g hg
    omega
  · by_cases e2 : j = k
    · simp only [if_neg e1] at hg
      simp only [if_pos e2] at hg2
      have := hlt i (by omega) g hg
      have := hnew g hg2
      omega
    · simp only [if_neg e1] at hg
      simp only [if_neg e2] at hg2
      exact h i j (by omega) (by omega) hij g hg hg2
/-- A state is written into its new variable. -/
theorem st_put {w : World} {lo m n av : Nat} {fa : Option Addr} {hs : List (Nat × Nat)} {gp pc : Nat} {F : Nat → Nat → Bool} {P : Nat → Bool} {a0 b0 : Value} (h : StE w lo m n fa hs gp pc F P) (hb : w.heap[av]? = some (.cells #[a0, b0] 91 (0, 0))) (a b : Value) : StE (putSt w av a b) lo m n fa hs gp pc F P := by
  refine h.gr (putSt_gr w av a b) (fun c hc e => ?_) (fun x hx e => ?_) (fun e => ?_)
  · obtain ⟨_, cs, hc'⟩ := h.2.2.2.2.2.2.2 c hc
    have : av = c := by simpa using e
    subst this
    rw [hb] at hc'
    simp at hc'
  · obtain ⟨j, hj, rfl⟩ := List.getElem_of_mem hx
    exact (h.2.2.1 j hj).2.off' hb (by decide) (by simpa using e)
  · exact h.2.2.2.2.1.off' hb (by decide) (by simpa using e)
theorem StE.lower {w : World} {lo lo' m n : Nat} {fa : Option Addr} {hs : List (Nat × Nat)} {gp pc : Nat} {F : Nat → Nat → Bool} {P : Nat → Bool} (h : StE w lo m n fa hs gp pc F P) (hl : lo' ≤ lo) : StE w lo' m n fa hs gp pc F P := by
  obtain ⟨h1, h2, h3, h4, h5, h6, h7, h8⟩ := h
  exact ⟨h1, h2, fun j hj => ⟨Nat.le_trans hl (h3 j hj).1, (h3 j hj).2⟩, Nat.le_trans hl h4, h5, h6, h7, fun b hb => ⟨Nat.le_trans hl (h8 b hb).1, (h8 b hb).2⟩⟩
/-- What is new is not written. -/
theorem StE.apart {w w' : World} {lo m n : Nat} {fa : Option Addr} {hs : List (Nat × Nat)} {gp pc : Nat} {F : Nat → Nat → Bool} {P : Nat → Bool} (h : StE w lo m n fa hs gp pc F P) {g : Nat} (hg : Gr w w' (some g)) (hlt : g < lo) : StE w' lo m n fa hs gp pc F P := by
  refine h.gr hg (fun b hb e => ?_) (fun x hx e => ?_) (fun e => ?_)
  · have := (h.2.2.2.2.2.2.2 b hb).1; simp at e; omega
  · have := h.2.2.1.lo x hx; simp at e; omega
  · have := h.2.2.2.1; simp at e; omega
theorem Tab4.congr {w : World} {ao : Option Addr} {A : Nat → Option Addr} {C : Nat → Nat} {HS : Nat → List (Nat × Nat)} {GP PC : Nat → Nat} {n m : Nat} {F F' : Nat → Nat → Nat → Bool} {P P' : Nat → Nat → Bool} (h : Tab4 w ao A C HS GP PC n m F P) (hF : ∀ i v k, v < m → k < n → F i v k = F' i v k) (hP : ∀ i k, k < n → P i k = P' i k) : Tab4 w ao A C HS GP PC n m F' P' :=
  ⟨h.1, h.2.1, fun i hi => (h.2.2 i hi).congr (hF i) (hP i)⟩
theorem trk_done4 {p : Pr} {val : Nat → (Nat × Nat → Prop) → Nat → Prop} {F : Nat → Nat → Nat → Bool} (h : ∀ i (b : Nat × Nat), F i b.1 b.2 = true ↔ Least (FwS (pts p) (fun _ => False) (trkA p.types (pts p) val)) i b) : F = trkB p val := by
  funext i v k
  rw [Bool.eq_iff_iff, trkB_iff]
  exact h i (v, k)
/-- To the first j of what comes next all has been added. -/
def QM {β : Type} (N : List Nat) (j : Nat) (k : Nat) (_ : β) : Prop := ∃ j', j' < j ∧ N[j']? = some k
theorem QM.step {β : Type} {N : List Nat} {j x : Nat} (hx : N[j]? = some x) (k : Nat) (b : β) (h : QM N (j + 1) k b) : QM N j k b ∨ k = x := by
  obtain ⟨j', h1, h2⟩ := h
  by_cases e : j' = j
  · subst e; rw [hx] at h2; exact .inr (by simpa using h2.symm)
  · exact .inl ⟨j', by omega, h2⟩
theorem QM.exit {β : Type} {L : List Pt} {a j : Nat} (hj : (nextOf L a).length ≤ j) (k : Nat) (hk : k ∈ nextOf L a) (b : β) : QM (nextOf L a) j k b := by
  obtain ⟨j', hj', rfl⟩ := List.getElem_of_mem hk
  exact ⟨j', by omega, List.getElem?_eq_getElem hj'⟩
/-- The rows of a state, with what comes behind another point added to the first u of them. -/
def fV (F : Nat → Nat → Nat → Bool) (kk : Nat) (H : Nat → Nat → Bool) (u : Nat) : Nat → Nat → Nat → Bool := fun i v k => if i = kk ∧ v < u then F i v k || H v k else F i v k
set_option maxRecDepth 100000 in
set_option maxHeartbeats 8000000 in
theorem l4Flow_any (p : Pr) (at' ab : Option Addr) (ct cb : Nat) (w : World) (hT : InAt w Any p.types at') (hB : SlAt w Any p.body ab) (hv : validP p = true) :
    Calls Try.prog 84 #[.agg #[.slice at' p.types.length ct, .slice ab p.body.length cb]] w (Flowed p w) := by
  have hcnt := valid_count hv
  have hlc := count_length p.body
  have hm6 : p.types.length ≤ 6 := valid_types hv
  have hn1 : (pts p).length ≤ 61 := pts_len hv
  have hpos := pts_pos' p
  have HNX := Lib.hid (pts_next p)
  have HV := Lib.hid hv
  clear hv
  have hg1 : ∀ o, Gr w (w.alloc o) none := fun o => (Gr.refl _ _).alloc _
  have HT0 := Lib.hid hT
  go_enter Try.func84, Try.ntmps84
  go_wp2_with fail
  refine (l2Points_any p at' ab ct cb _ (hB.gr0 (hg1 _)) (by omega) (by unfold maxLen; omega)).mono ?_
  rintro e w1 ⟨L, am, c0, hM, rfl, hown, hg⟩
  have hG1 : Gr w w1 none := (hg1 _).trans0 hg
  have HM := Lib.hid hM
  have HR := Lib.hid hown.read
  rw [← hM] at hn1 HNX hpos
  have q0 : w1.cell? ⟨w.heap.size, 0, none⟩ = some (.slice at' p.types.length ct) := hg.cell (p := ⟨w.heap.size, 0, none⟩) (cell_of_row _ _ _ _ _ _ (heap1_0 _ _)) (by simp)
  obtain ⟨m, hmm⟩ : ∃ m, p.types.length = m := ⟨_, rfl⟩
  obtain ⟨n, hnn0⟩ : ∃ n, L.length = n := ⟨_, rfl⟩
  have HMT := Lib.hid hmm
  have HN := Lib.hid hnn0
  rw [hmm] at q0 hm6
  rw [hnn0] at hn1 hpos ⊢
  clear hM hown hg hB hT hmm hnn0
  have hE : (w1.alloc (.cells #[] 91)).heap[w1.heap.size]? = some (.cells #[] 91 (0, 0)) := heap1_0 _ _
  go_wp2_with fail
  obtain ⟨wB, hwB⟩ : ∃ wB : World, wB = w1.alloc (.cells #[] 91) := ⟨_, rfl⟩
  have hgB : Gr w1 wB none := by rw [hwB]; exact (Gr.refl _ _).alloc _
  replace q0 := hgB.cell q0 (by simp)
  have hGB : Gr w wB none := hG1.trans0 hgB
  have HRB := Lib.hid (HR.out.gr hgB)
  have HTB' := Lib.hid (HT0.out.gr0 hGB)
  rw [← hwB] at hE ⊢
  have HQ0 := Lib.hid q0
  have hL0 : LstR 91 2 wB w1.heap.size wB.heap.size ((List.range 0).map fun i => [Value.slice ((fun _ => none : Nat → Option Addr) i) m ((fun _ => 0 : Nat → Nat) i), Value.slice (some ⟨(fun _ => 0 : Nat → Nat) i, 0, none⟩) n ((fun _ => 0 : Nat → Nat) i)]) (some ⟨w1.heap.size, 0, none⟩) 0 0 := LstR.empty hgB.size (Nat.le_refl _) hE
  have HGB := Lib.hid hGB
  clear hwB hgB hGB hE hG1 HR HT0 q0
  go_loopw [4, 5] (fun v i wr => ∃ (k cap : Nat) (ao : Option Addr) (A : Nat → Option Addr) (C : Nat → Nat) (HS : Nat → List (Nat × Nat)) (GP PC : Nat → Nat), k ≤ n ∧ i = .int .i64 k ∧ v = .slice ao k cap ∧ LstR 91 2 wr w1.heap.size wB.heap.size ((List.range k).map fun i => [.slice (A i) m (C i), .slice (some ⟨GP i, 0, none⟩) n (PC i)]) ao k cap ∧
    (∀ i, i < k → StE wr 0 m n (A i) (HS i) (GP i) (PC i) (fun _ _ => false) (fun _ => false)) ∧ SepS HS GP k ∧ (∀ i, i < k → ∀ g ∈ rowsO HS GP i, wB.heap.size ≤ g) ∧ Gr wB wr none) (fun _ i _ => n - (intOf i).toNat)
  case atStart => exact ⟨0, 0, _, fun _ => none, fun _ => 0, fun _ => [], fun _ => 0, fun _ => 0, Nat.zero_le _, rfl, rfl, hL0, fun i hi => absurd hi (by omega), fun i j hi => absurd hi (by omega), fun i hi => absurd hi (by omega), Gr.refl _ _⟩
  case round =>
    obtain ⟨k, cap, ao, A, C, HS, GP, PC, hk, rfl, rfl, hLs, hrows, hsep, hlo, hg⟩ := hrel
    have HLS := Lib.hid hLs
    have HROWS := Lib.hid hrows
    have HSEP := Lib.hid hsep
    have HLO := Lib.hid hlo
    have HG := Lib.hid hg
    clear hLs hrows hsep hL0 hlo
    by_cases hlt : k < n
    · rename World => wO
      have q0 := hg.cell HQ0.out (by simp)
      clear hg
      go_wp2_with fail
      refine (l4Start_any m n _ hm6 (by omega)).mono ?_
      rintro e w2 ⟨fa, fc, hs, gp, pc, rfl, hSt, hg2⟩
      have HST := Lib.hid hSt
      have HG2 := Lib.hid hg2
      have HLR := Lib.hid (HLS.out.gr hg2)
      clear hSt hg2 q0
      go_wp2_with (at_builtin; refine app_r w2 _ rfl (.tmp 21) (.tmp 28) 92 rfl 91 2 48 _ Try.underlying92 L4info rfl (by decide) (by decide) w1.heap.size wB.heap.size ao cap k _ [.slice fa m fc, .slice (some ⟨gp, 0, none⟩) n pc] rfl HLR.out ((Gr.refl _ _).alloc _) w2.heap.size 1 rfl _ (heap1_0 _ _) rfl rfl (by intro v hv; simp at hv; rcases hv with rfl | rfl <;> rfl) (by omega) (HG.out.trans0 HG2.out).size ?_; rintro g cap' w4 hL4 hg4 hgo)
      have hg14 : Gr wB w4 none := hg4 _ ((HG.out.trans0 HG2.out).alloc _) (Nat.le_refl _)
      have hgr4 : Gr w2 w4 (ob ao) := (((Gr.refl w2 none).alloc _).weaken).trans hgo (fun _ h => .inl h)
      have hnew := fun g hg => (HST.out.row (g := g) hg).1
      have hszO := HG.out.size
      go_roundw
      case rel =>
        refine ⟨k + 1, cap', some ⟨g, 0, none⟩, (fun i => if i = k then fa else A i), (fun i => if i = k then fc else C i), (fun i => if i = k then hs else HS i), (fun i => if i = k then gp else GP i), (fun i => if i = k then pc else PC i), by omega, by go_num, rfl, ?_, states_grow HROWS.out HLS.out HG2.out HST.out hgr4, sep_grow HSEP.out (fun i hi g hg => ((HROWS.out i hi).row hg).2) hnew, ?_, hg14⟩
        · have e : (List.range (k + 1)).map (fun i => [Value.slice (if i = k then fa else A i) m (if i = k then fc else C i), Value.slice (some ⟨if i = k then gp else GP i, 0, none⟩) n (if i = k then pc else PC i)]) = (List.range k).map (fun i => [Value.slice (A i) m (C i), Value.slice (some ⟨GP i, 0, none⟩) n (PC i)]) ++ [[.slice fa m fc, .slice (some ⟨gp, 0, none⟩) n pc]] := by
            rw [List.range_succ, List.map_append]
            congr 1
            · refine List.map_congr_left fun i hi => ?_
              have : i ≠ k := by have := List.mem_range.1 hi; omega
              simp [this]
            · simp
          rw [e]; exact hL4
        · intro i hi g hg
          unfold rowsO at hg
          by_cases e1 : i = k
          · simp only [if_pos e1] at hg
            have := hnew g hg
            omega
          · simp only [if_neg e1] at hg
            exact HLO.out i (by omega) g hg
      case measure => simp [intOf]; omega
    · obtain rfl : k = n := by omega
      rename World => wC
      have hne : (List.range k).map (fun i => [Value.slice (A i) m (C i), Value.slice (some ⟨GP i, 0, none⟩) k (PC i)]) ≠ [] := fun h => by
        have h2 := congrArg List.length (List.map_eq_nil_iff.1 h)
        rw [List.length_range] at h2
        simp only [List.length_nil] at h2
        omega
      have HT4 := Lib.hid (show Tab4 wC ao A C HS GP PC k m (fun _ _ _ => false) (fun _ _ => false) from ⟨HLS.out.rows, fun b hb => HLS.out.typ hne hb, HROWS.out⟩)
      have HLT := Lib.hid (show ∀ i, i < k → ∀ g ∈ rowsO HS GP i, g < wC.heap.size from fun i hi g hg => ((HROWS.out i hi).row hg).2)
      have HFw0 := Lib.hid (show FwOk L nothing (fpA p.types L) (tS (fun _ _ _ => false) (fun _ _ => false)) from ⟨(fun i b h => by cases b <;> simp [tS] at h), (fun b h => h.elim)⟩)
      have HR0 := Lib.hid (show RangeS m k (fun _ _ _ => false) (fun _ _ => false) from ⟨(fun i v u h => by cases h), (fun i u h => by cases h)⟩)
      have HYS := Lib.hid (show ∀ j, j < k → (ptAt L j).op = 3 ∨ (ptAt L j).op = 4 ∨ (ptAt L j).op = 5 → ∃ y : Nat, (ptAt L j).y = y ∧ y < m from fun j hj => by
        have hj' : j < (pts p).length := by rw [← HM.out, HN.out]; exact hj
        have := pt_y45 HV.out hj' rfl
        rw [← HM.out, HMT.out] at this; exact this)
      have HLN := Lib.hid (show ∀ j, j < k → lnB L j = true → (ptAt L j).y = (yN L j : Int) from fun j hj hl => by
        unfold lnB at hl
        have ho : (ptAt L j).op = 4 ∨ (ptAt L j).op = 5 := by simpa using hl
        obtain ⟨y, hy, _⟩ := HYS.out j hj (.inr ho)
        unfold yN
        rw [hy]; rfl)
      have HST := Lib.hid (show ∀ j, j < k → -1 ≤ setOf (ptAt L j).op (ptAt L j).x ∧ setOf (ptAt L j).op (ptAt L j).x < m from fun j hj => by
        have hj' : j < (pts p).length := by rw [← HM.out, HN.out]; exact hj
        have := set_in HV.out hj'
        rw [← ptAt_get hj', ← HM.out, HMT.out] at this; exact this)
      clear hne hlt hk
      go_wp2_with fail
      go_loopg [6] (leftG (boxS k m) (tS (fun _ _ _ => false) (fun _ _ => false)) true) (fun gh s wq => ∃ (c : Bool) (F : Nat → Nat → Nat → Bool) (P : Nat → Nat → Bool), gh = leftG (boxS k m) (tS F P) c ∧ s = .bool c ∧ FwA L nothing (fpA p.types L) (tS F P) c ∧ RangeS m k F P ∧ Tab4 wq ao A C HS GP PC k m F P ∧ Gr wB wq none ∧ wC.heap.size ≤ wq.heap.size)
      case atStart => exact ⟨true, _, _, rfl, rfl, FwA.start HFw0.out, HR0.out, HT4.out, HG.out, Nat.le_refl _⟩
      case round =>
        obtain ⟨c, F, P, rfl, rfl, hA, hrg, hT4, hg, hsz⟩ := hrel
        have HAA := Lib.hid hA
        have HRG := Lib.hid hrg
        have HT4 := Lib.hid hT4
        have HG := Lib.hid hg
        clear hA hrg hT4 hg
        cases c with
        | false =>
          have HFT := Lib.hid (show F = trkB p (loanV p.types (pts p)) from trk_done4 fun i b => by
            have := HAA.out.2 rfl i (.inl b)
            rw [fp_inl, HM.out] at this
            exact this)
          have HPT := Lib.hid (show P = plB p by
            funext i b
            have := HAA.out.2 rfl i (.inr b)
            rw [fp_inr, HM.out] at this
            rw [Bool.eq_iff_iff, plB_iff]
            exact this)
          have HNP := Lib.hid (show (pts p).length = k by rw [← HM.out]; exact HN.out)
          go_wp2_with fail
          go_ret
          refine ⟨ao, cap, A, C, HS, GP, PC, by rw [HNP.out]; rfl, ?_, HGB.out.trans0 HG.out⟩
          rw [HNP.out, HMT.out, ← HFT.out, ← HPT.out]; exact HT4.out
        | true =>
          go_wp2_with fail
          go_loopw [6, 7] (fun s i wq => ∃ (c : Bool) (F2 : Nat → Nat → Nat → Bool) (P2 : Nat → Nat → Bool) (a : Nat), a ≤ k ∧ s = .bool c ∧ i = .int .i64 a ∧ FwR (boxS k m) L nothing (fpA p.types L) (tS F P) (tS F2 P2) c a ∧ RangeS m k F2 P2 ∧ Tab4 wq ao A C HS GP PC k m F2 P2 ∧ Gr wB wq none ∧ wC.heap.size ≤ wq.heap.size) (fun _ i _ => k - (intOf i).toNat)
          case atStart => exact ⟨false, F, P, 0, Nat.zero_le _, rfl, rfl, FwR.start HAA.out.1, HRG.out, HT4.out, HG.out, hsz⟩
          case round =>
            obtain ⟨c, F2, P2, a, ha, rfl, rfl, hR, hrg, hT4, hg, hsz⟩ := hrel
            rename World => wA
            have HR := Lib.hid hR
            have HRG := Lib.hid hrg
            have HT4 := Lib.hid hT4
            have HGU := Lib.hid hg
            clear hR hrg hT4
            by_cases hak : a < k
            · have haL : a < L.length := by rw [HN.out]; exact hak
              obtain ⟨b, po, rfl, an, cn, -, -, -, -, e4, hin, -⟩ := HRB.out a haL
              obtain ⟨q, eq⟩ : ∃ q, L[a] = q := ⟨_, rfl⟩
              have hnq : nextOf L a = q.next := by rw [nextOf_get haL, eq]
              rw [eq] at e4 hin
              have HNQ := Lib.hid hnq
              obtain ⟨nn, hnn⟩ : ∃ nn, q.next.length = nn := ⟨_, rfl⟩
              rw [hnn] at e4
              have HD4 := Lib.hid e4
              have HNNX := Lib.hid hnn
              have hnn2 : nn ≤ 2 := by have := (HNX.out a haL).1; rw [hnq, hnn] at this; exact this
              have HNL := Lib.hid (show ∀ j ∈ q.next, j < k by have := (HNX.out a haL).2; rw [hnq, HN.out] at this; exact this)
              have HIN := Lib.hid hin
              have q0 := hg.cell HQ0.out (by simp)
              obtain ⟨bt, ot, rfl, h0, h1⟩ := HT4.out.cell hak
              have HSA := Lib.hid (HT4.out.2.2 a hak)
              have HROW := Lib.hid (fun b => fp_row (T := p.types) (b := b) HN.out hak HRG.out (HST.out a hak).2)
              obtain ⟨H, hH⟩ : ∃ H, aftF p.types L a (F2 a) = H := ⟨_, rfl⟩
              obtain ⟨Q, hQ⟩ : ∃ Q, aftP p.types L a (P2 a) = Q := ⟨_, rfl⟩
              rw [hH, hQ] at HROW
              have HH := Lib.hid hH
              have HQ := Lib.hid hQ
              clear eq hnq hnn hin e4 hg hH hQ
              go_upto_region 13 with fail
              go_cut [8] (fun sv wx => ∃ (av gp pc fc : Nat) (fa : Option Addr) (hs : List (Nat × Nat)), sv = .pointer (some ⟨av, 0, none⟩) ∧ wA.heap.size ≤ av ∧ wx.heap[av]? = some (.cells #[.slice fa m fc, .slice (some ⟨gp, 0, none⟩) k pc] 91 (0, 0)) ∧ StE wx wA.heap.size m k fa hs gp pc H Q ∧ Gr wA wx none)
              case first =>
--<RA
                refine wp_region_held_drew (S := fun w' => Gr wA w' none) (by kernel_rfl) ((Gr.refl _ _).drew) (fun hHeld => ?_)
                refine wpAnyH_take (i := 0) (v := ?_) rfl (by kernel_rfl) (by kernel_rfl) (by kernel_rfl) (fun _ _ _ h => h) (Or.inl ⟨by rfl, ?_⟩) hHeld ?_
                rotate_left
                focus (intro wq hq; clear hq; go_simp; try with_reducible rfl)
                simp only [Act.put, List.getElem_toArray, List.getElem_cons_zero, List.setIfInBounds_toArray, List.set_cons_zero, List.set_cons_succ]
                refine wpAnyH_take (i := 1) (v := ?_) rfl (by kernel_rfl) (by kernel_rfl) (by kernel_rfl) (fun _ _ _ h => h) (Or.inl ⟨by rfl, ?_⟩) hHeld ?_
                rotate_left
                focus (intro wq hq; have k0 := hq.cell q0 (by simp); go_simp; try with_reducible rfl)
                simp only [Act.put, List.getElem_toArray, List.getElem_cons_succ, List.getElem_cons_zero, List.setIfInBounds_toArray, List.set_cons_zero, List.set_cons_succ]
                refine wpAnyH_take (i := 2) (v := ?_) rfl (by kernel_rfl) (by kernel_rfl) (by kernel_rfl) (fun _ _ _ h => h) (Or.inl ⟨by rfl, ?_⟩) hHeld ?_
                rotate_left
                focus (intro wq hq; clear hq; go_simp; try with_reducible rfl)
                simp only [Act.put, List.getElem_toArray, List.getElem_cons_succ, List.getElem_cons_zero, List.setIfInBounds_toArray, List.set_cons_zero, List.set_cons_succ]
                refine wpAnyH_take (i := 3) (v := ?_) rfl (by kernel_rfl) (by kernel_rfl) (by kernel_rfl) (fun _ _ _ h => h) (Or.inl ⟨by rfl, ?_⟩) hHeld ?_
                rotate_left
                focus (intro wq hq; clear hq; go_simp; try with_reducible rfl)
                simp only [Act.put, List.getElem_toArray, List.getElem_cons_succ, List.getElem_cons_zero, List.setIfInBounds_toArray, List.set_cons_zero, List.set_cons_succ]
                refine wpAnyH_take (i := 4) (v := ?_) rfl (by kernel_rfl) (by kernel_rfl) (by kernel_rfl) (fun _ _ _ h => h) (Or.inl ⟨by rfl, ?_⟩) hHeld ?_
                rotate_left
                focus (intro wq hq; clear hq; go_simp; try with_reducible rfl)
                simp only [Act.put, List.getElem_toArray, List.getElem_cons_succ, List.getElem_cons_zero, List.setIfInBounds_toArray, List.set_cons_zero, List.set_cons_succ]
                refine wpAnyH_take (i := 5) (v := ?_) rfl (by kernel_rfl) (by kernel_rfl) (by kernel_rfl) (fun _ _ _ h => h) (Or.inl ⟨by rfl, ?_⟩) hHeld ?_
                rotate_left
                focus (intro wq hq; clear hq; go_simp; try with_reducible rfl)
                simp only [Act.put, List.getElem_toArray, List.getElem_cons_succ, List.getElem_cons_zero, List.setIfInBounds_toArray, List.set_cons_zero, List.set_cons_succ]
                refine wpAnyH_take (i := 6) (v := ?_) rfl (by kernel_rfl) (by kernel_rfl) (by kernel_rfl) (fun _ _ _ h => h) (Or.inl ⟨by rfl, ?_⟩) hHeld ?_
                rotate_left
                focus (intro wq hq; clear hq; go_simp; try with_reducible rfl)
                simp only [Act.put, List.getElem_toArray, List.getElem_cons_succ, List.getElem_cons_zero, List.setIfInBounds_toArray, List.set_cons_zero, List.set_cons_succ]
                refine wpAnyH_take (i := 7) (v := ?_) rfl (by kernel_rfl) (by kernel_rfl) (by kernel_rfl) (fun _ _ _ h => h) (Or.inl ⟨by rfl, ?_⟩) hHeld ?_
                rotate_left
                focus (intro wq hq; have k0 := hq.cell h0 (by simp); have k1 := hq.cell h1 (by simp); go_simp; try with_reducible rfl)
                simp only [Act.put, List.getElem_toArray, List.getElem_cons_succ, List.getElem_cons_zero, List.setIfInBounds_toArray, List.set_cons_zero, List.set_cons_succ]
                refine wpAnyH_ready (rs := [8, 9]) (by kernel_rfl) (by simp) ?_
                refine AllReadyH.cons rfl (fun K hK => ?_) (AllReadyH.cons rfl (fun K hK => ?_) AllReadyH.nil)
                · go_simp
                  refine (l4After_any p.types at' ct L (some ⟨b, po, none⟩) c0 a 0 m k (A a) (C a) (GP a) (PC a) (HS a) (F2 a) (P2 a) _ (HTB'.out.gr0 (HGU.out.trans0 hHeld)) HMT.out hm6 (HRB.out.gr (HGU.out.trans0 hHeld)) HN.out hn1 hak (HSA.out.gr0 hHeld) HLN.out (HYS.out a hak) (HST.out a hak)).mono ?_
                  rw [HH.out, HQ.out]
                  have hz := hHeld.size
                  rintro e w5 ⟨fa, fc, hs, gp, pc, rfl, hSv, hg5⟩
                  try dsimp only
                  refine hK.out _ _ (hHeld.trans0 hg5) (fun hHeld => ?_)
                  clear hK K
                  try simp only [Act.put, List.getElem_toArray, List.getElem_cons_succ, List.getElem_cons_zero, List.setIfInBounds_toArray, List.set_cons_zero, List.set_cons_succ]
                  refine wpAnyH_ready (rs := [9]) (by kernel_rfl) (by simp) ?_
                  refine AllReadyH.cons rfl (fun K hK => ?_) AllReadyH.nil
                  go_simp
                  refine hK.out _ _ (hHeld.alloc _) (fun hHeld2 => ?_)
                  clear hK K
                  try simp only [Act.put, List.getElem_toArray, List.getElem_cons_succ, List.getElem_cons_zero, List.setIfInBounds_toArray, List.set_cons_zero, List.set_cons_succ]
                  have hE := heap1_0 w5 (.cells #[.slice none 0 0, .slice none 0 0] 91)
                  have hg6 : Gr w5 (w5.alloc (.cells #[.slice none 0 0, .slice none 0 0] 91)) none := (Gr.refl _ _).alloc _
                  obtain ⟨w6, hw6⟩ : ∃ w6, w6 = w5.alloc (.cells #[.slice none 0 0, .slice none 0 0] 91) := ⟨_, rfl⟩
                  rw [← hw6] at hE hg6 ⊢
                  obtain ⟨av, hav⟩ : ∃ av, w5.heap.size = av := ⟨_, rfl⟩
                  rw [hav] at hE ⊢
                  have HAV := Lib.hid (show wA.heap.size ≤ av by rw [← hav]; exact hHeld.size)
                  have HSV := Lib.hid ((hSv.lower (lo' := wA.heap.size) hz).gr0 hg6)
                  have hHeld := hHeld.trans0 hg6
                  clear hHeld2 hw6 hav hSv hg5 hg6 hz
                  have x0 : w6.cell? ⟨av, 0, none⟩ = some (.slice none 0 0) := cell_of_row _ _ _ _ _ _ hE
                  have x1 : w6.cell? ⟨av, 1, none⟩ = some (.slice none 0 0) := cell_of_row _ _ _ _ _ _ hE
                  have xf : ∀ j, w6.frozen? ⟨av, j, none⟩ = false := fun j => by simp [World.frozen?, hE]
                  have HE := Lib.hid hE
                  have HHeld := Lib.hid hHeld
                  clear hE
                  refine wpAnyH_ready (rs := [10]) (by kernel_rfl) (by simp) ?_
                  refine AllReadyH.cons rfl (fun K hK => ?_) AllReadyH.nil
                  go_simp
                  refine hK.out _ _ (HHeld.out.trans (putSt_gr w6 av (.slice fa m fc) (.slice (some ⟨gp, 0, none⟩) k pc)) (fun r e => .inr (by cases e; exact HAV.out))) (fun hHeld => ?_)
                  clear hK K
                  try simp only [Act.put, List.getElem_toArray, List.getElem_cons_succ, List.getElem_cons_zero, List.setIfInBounds_toArray, List.set_cons_zero, List.set_cons_succ]
                  refine wpAnyH_done (by kernel_rfl) ?_ _
                  go_wp2_with fail
                  go_meet
                  exact ⟨av, gp, pc, fc, fa, hs, rfl, HAV.out, putSt_at HE.out _ _, st_put HSV.out HE.out _ _, hHeld⟩
                · go_simp
                  refine hK.out _ _ (hHeld.alloc _) (fun hHeld2 => ?_)
                  clear hK K
                  try simp only [Act.put, List.getElem_toArray, List.getElem_cons_succ, List.getElem_cons_zero, List.setIfInBounds_toArray, List.set_cons_zero, List.set_cons_succ]
                  have hE := heap1_0 wA (.cells #[.slice none 0 0, .slice none 0 0] 91)
                  have hg6 : Gr wA (wA.alloc (.cells #[.slice none 0 0, .slice none 0 0] 91)).drew none := ((Gr.refl _ _).alloc _).drew
                  obtain ⟨w6, hw6⟩ : ∃ w6, w6 = (wA.alloc (.cells #[.slice none 0 0, .slice none 0 0] 91)).drew := ⟨_, rfl⟩
                  replace hE : w6.heap[wA.heap.size]? = some (.cells #[.slice none 0 0, .slice none 0 0] 91 (0, 0)) := by rw [hw6]; exact hE
                  rw [← hw6] at hg6 ⊢
                  obtain ⟨av, hav⟩ : ∃ av, wA.heap.size = av := ⟨_, rfl⟩
                  rw [hav] at hE ⊢
                  have HAV := Lib.hid (show wA.heap.size ≤ av by omega)
                  have HE6 := Lib.hid hE
                  have HG6 := Lib.hid hg6
                  replace hHeld := hg6
                  clear hHeld2 hw6 hav hE hg6
                  refine wpAnyH_ready (rs := [8]) (by kernel_rfl) (by simp) ?_
                  refine AllReadyH.cons rfl (fun K hK => ?_) AllReadyH.nil
                  go_simp
                  refine (l4After_any p.types at' ct L (some ⟨b, po, none⟩) c0 a 0 m k (A a) (C a) (GP a) (PC a) (HS a) (F2 a) (P2 a) _ (HTB'.out.gr0 (HGU.out.trans0 hHeld)) HMT.out hm6 (HRB.out.gr (HGU.out.trans0 hHeld)) HN.out hn1 hak (HSA.out.gr0 hHeld) HLN.out (HYS.out a hak) (HST.out a hak)).mono ?_
                  rw [HH.out, HQ.out]
                  have hz := hHeld.size
                  rintro e w7 ⟨fa, fc, hs, gp, pc, rfl, hSv, hg5⟩
                  try dsimp only
                  refine hK.out _ _ (hHeld.trans0 hg5) (fun hHeld => ?_)
                  clear hK K
                  try simp only [Act.put, List.getElem_toArray, List.getElem_cons_succ, List.getElem_cons_zero, List.setIfInBounds_toArray, List.set_cons_zero, List.set_cons_succ]
                  have hE : w7.heap[av]? = some (.cells #[.slice none 0 0, .slice none 0 0] 91 (0, 0)) := by rw [hg5.block _ (lt_of_block HE6.out) (by simp)]; exact HE6.out
                  have HSV := Lib.hid (hSv.lower (lo' := wA.heap.size) hz)
                  clear hSv hg5 hz
                  have x0 : w7.cell? ⟨av, 0, none⟩ = some (.slice none 0 0) := cell_of_row _ _ _ _ _ _ hE
                  have x1 : w7.cell? ⟨av, 1, none⟩ = some (.slice none 0 0) := cell_of_row _ _ _ _ _ _ hE
                  have xf : ∀ j, w7.frozen? ⟨av, j, none⟩ = false := fun j => by simp [World.frozen?, hE]
                  have HE := Lib.hid hE
                  have HHeld := Lib.hid hHeld
                  clear hE
                  refine wpAnyH_ready (rs := [10]) (by kernel_rfl) (by simp) ?_
                  refine AllReadyH.cons rfl (fun K hK => ?_) AllReadyH.nil
                  go_simp
                  refine hK.out _ _ (HHeld.out.trans (putSt_gr w7 av (.slice fa m fc) (.slice (some ⟨gp, 0, none⟩) k pc)) (fun r e => .inr (by cases e; exact HAV.out))) (fun hHeld => ?_)
                  clear hK K
                  try simp only [Act.put, List.getElem_toArray, List.getElem_cons_succ, List.getElem_cons_zero, List.setIfInBounds_toArray, List.set_cons_zero, List.set_cons_succ]
                  refine wpAnyH_done (by kernel_rfl) ?_ _
                  go_wp2_with fail
                  go_meet
                  exact ⟨av, gp, pc, fc, fa, hs, rfl, HAV.out, putSt_at HE.out _ _, st_put HSV.out HE.out _ _, hHeld⟩
--RA>
              case rest =>
                rename World => wx
                obtain ⟨av, gp, pc, fc, fa, hs, rfl, hav, hbv, hSv, hgx⟩ := hcut
                have HAV := Lib.hid (show wC.heap.size ≤ wA.heap.size ∧ wA.heap.size ≤ av from ⟨hsz, hav⟩)
                have HBV := Lib.hid hbv
                have HSV := Lib.hid hSv
                have HGX := Lib.hid (HGU.out.trans0 hgx)
                have HT4X := Lib.hid (HT4.out.gr hgx)
                have HSZX := Lib.hid hgx.size
                have hJ0 := HR.out.enterJ (fpA_mono _ _) (R := rS m k H Q) (fun b => HROW.out b)
                have HJ0 := Lib.hid (hJ0.mono (Q' := QM (nextOf L a) 0) (fun k b h _ => by obtain ⟨j', h1, _⟩ := h; omega))
                clear hav hbv hSv hgx hJ0 q0 h0 h1
                go_wp2_with fail
                go_loopw [6, 9] (fun s i wq => ∃ (c : Bool) (F3 : Nat → Nat → Nat → Bool) (P3 : Nat → Nat → Bool) (j : Nat), j ≤ nn ∧ s = .bool c ∧ i = .int .i64 j ∧ FwJ (boxS k m) L nothing (fpA p.types L) (tS F P) (tS F3 P3) c a (rS m k H Q) (QM (nextOf L a) j) ∧ RangeS m k F3 P3 ∧ Tab4 wq (some ⟨bt, ot, none⟩) A C HS GP PC k m F3 P3 ∧ wq.heap[av]? = some (.cells #[.slice fa m fc, .slice (some ⟨gp, 0, none⟩) k pc] 91 (0, 0)) ∧ StE wq wA.heap.size m k fa hs gp pc H Q ∧ Gr wB wq none ∧ wA.heap.size ≤ wq.heap.size) (fun _ i _ => nn - (intOf i).toNat)
                case atStart => exact ⟨c, F2, P2, 0, Nat.zero_le _, rfl, rfl, HJ0.out, HRG.out, HT4X.out, HBV.out, HSV.out, HGX.out, HSZX.out⟩
                case round =>
                  obtain ⟨c, F3, P3, j, hj, rfl, rfl, hJ, hrg, hT4, hbv, hSv, hg, hsz2⟩ := hrel
                  have HJ := Lib.hid hJ
                  have HRG3 := Lib.hid hrg
                  have HTJ := Lib.hid hT4
                  have HBVJ := Lib.hid hbv
                  have HSVJ := Lib.hid hSv
                  have HGJ := Lib.hid hg
                  have d4 := hg.cell HD4.out (by simp)
                  have hinj := HIN.out.gr0 hg
                  have v0 : wr.cell? ⟨av, 0, none⟩ = some (.slice fa m fc) := cell_of_row _ _ _ _ _ _ hbv
                  have v1 : wr.cell? ⟨av, 1, none⟩ = some (.slice (some ⟨gp, 0, none⟩) k pc) := cell_of_row _ _ _ _ _ _ hbv
                  clear hJ hrg hT4 hbv hSv hg
                  by_cases hjn : j < nn
                  · have hjq : j < q.next.length := by rw [HNNX.out]; exact hjn
                    obtain ⟨b6, o6, rfl, -, c6⟩ := hinj.at (i := j) (by rw [zs_length]; exact hjq)
                    obtain ⟨kk, hkk⟩ : ∃ kk, q.next[j] = kk := ⟨_, rfl⟩
                    have hzk : (zs q.next)[j]'(by rw [zs_length]; exact hjq) = (kk : Int) := by rw [← hkk]; simp [zs]
                    rw [hzk] at c6
                    have HX := Lib.hid (show (nextOf L a)[j]? = some kk by rw [HNQ.out, List.getElem?_eq_getElem hjq, hkk])
                    have HKM := Lib.hid (show kk ∈ nextOf L a by rw [HNQ.out, ← hkk]; exact List.getElem_mem hjq)
                    have hkn : kk < k := HNL.out kk (hkk ▸ List.getElem_mem hjq)
                    obtain ⟨bt2, ot2, et, h0, h1⟩ := HTJ.out.cell hkn
                    cases et
                    obtain ⟨wi, hwi⟩ : ∃ wi, wiB m k H Q (F3 kk) (P3 kk) = wi := ⟨_, rfl⟩
                    have HWI := Lib.hid hwi
                    clear hkk hzk hinj hwi
                    go_upto_region 18 with fail
                    go_cut [70] (fun sv wx => sv = .bool (!wi) ∧ Gr wr wx none)
                    case first =>
--<RB
                      refine wp_region_held_drew (S := fun w' => Gr wr w' none) (by kernel_rfl) ((Gr.refl _ _).drew) (fun hHeld => ?_)
                      refine wpAnyH_take (i := 0) (v := ?_) rfl (by kernel_rfl) (by kernel_rfl) (by kernel_rfl) (fun _ _ _ h => h) (Or.inl ⟨by rfl, ?_⟩) hHeld ?_
                      rotate_left
                      focus (intro wq hq; have k0 := hq.cell v0 (by simp); have k1 := hq.cell v1 (by simp); go_simp; try with_reducible rfl)
                      simp only [Act.put, List.getElem_toArray, List.getElem_cons_zero, List.setIfInBounds_toArray, List.set_cons_zero, List.set_cons_succ]
                      refine wpAnyH_take (i := 1) (v := ?_) rfl (by kernel_rfl) (by kernel_rfl) (by kernel_rfl) (fun _ _ _ h => h) (Or.inl ⟨by rfl, ?_⟩) hHeld ?_
                      rotate_left
                      focus (intro wq hq; clear hq; go_simp; try with_reducible rfl)
                      simp only [Act.put, List.getElem_toArray, List.getElem_cons_succ, List.getElem_cons_zero, List.setIfInBounds_toArray, List.set_cons_zero, List.set_cons_succ]
                      refine wpAnyH_take (i := 2) (v := ?_) rfl (by kernel_rfl) (by kernel_rfl) (by kernel_rfl) (fun _ _ _ h => h) (Or.inl ⟨by rfl, ?_⟩) hHeld ?_
                      rotate_left
                      focus (intro wq hq; clear hq; go_simp; try with_reducible rfl)
                      simp only [Act.put, List.getElem_toArray, List.getElem_cons_succ, List.getElem_cons_zero, List.setIfInBounds_toArray, List.set_cons_zero, List.set_cons_succ]
                      refine wpAnyH_take (i := 3) (v := ?_) rfl (by kernel_rfl) (by kernel_rfl) (by kernel_rfl) (fun _ _ _ h => h) (Or.inl ⟨by rfl, ?_⟩) hHeld ?_
                      rotate_left
                      focus (intro wq hq; clear hq; go_simp; try with_reducible rfl)
                      simp only [Act.put, List.getElem_toArray, List.getElem_cons_succ, List.getElem_cons_zero, List.setIfInBounds_toArray, List.set_cons_zero, List.set_cons_succ]
                      refine wpAnyH_take (i := 4) (v := ?_) rfl (by kernel_rfl) (by kernel_rfl) (by kernel_rfl) (fun _ _ _ h => h) (Or.inl ⟨by rfl, ?_⟩) hHeld ?_
                      rotate_left
                      focus (intro wq hq; have k0 := hq.cell h0 (by simp); have k1 := hq.cell h1 (by simp); go_simp; try with_reducible rfl)
                      simp only [Act.put, List.getElem_toArray, List.getElem_cons_succ, List.getElem_cons_zero, List.setIfInBounds_toArray, List.set_cons_zero, List.set_cons_succ]
                      refine wpAnyH_ready (rs := [5]) (by kernel_rfl) (by simp) ?_
                      refine AllReadyH.cons rfl (fun K hK => ?_) AllReadyH.nil
                      go_simp
                      refine (l4Within_any wA.heap.size 0 m k fa (A kk) fc (C kk) gp pc (GP kk) (PC kk) hs (HS kk) H (F3 kk) Q (P3 kk) _ (HSVJ.out.gr0 hHeld) ((HTJ.out.2.2 kk hkn).gr0 hHeld) hm6 (by omega)).mono ?_
                      rw [HWI.out]
                      rintro e w5 ⟨rfl, hg5⟩
                      try dsimp only
                      refine hK.out _ _ (hHeld.trans0 hg5) (fun hHeld => ?_)
                      clear hK K
                      try simp only [Act.put, List.getElem_toArray, List.getElem_cons_succ, List.getElem_cons_zero, List.setIfInBounds_toArray, List.set_cons_zero, List.set_cons_succ]
                      refine wpAnyH_take (i := 6) (v := ?_) rfl (by kernel_rfl) (by kernel_rfl) (by kernel_rfl) (fun _ _ _ h => h) (Or.inl ⟨by rfl, ?_⟩) hHeld ?_
                      rotate_left
                      focus (intro wq hq; clear hq; go_simp; try with_reducible rfl)
                      simp only [Act.put, List.getElem_toArray, List.getElem_cons_succ, List.getElem_cons_zero, List.setIfInBounds_toArray, List.set_cons_zero, List.set_cons_succ]
                      refine wpAnyH_done (by kernel_rfl) ?_ _
                      go_wp2_with fail
                      go_meet
                      exact ⟨rfl, hHeld⟩
--RB>
                    case rest =>
                      rename World => wy
                      obtain ⟨rfl, hgy⟩ := hcut
                      have HSZ2 := Lib.hid (show wA.heap.size ≤ wy.heap.size from Nat.le_trans hsz2 hgy.size)
                      have HGY := Lib.hid (HGJ.out.trans0 hgy)
                      have HTY := Lib.hid (HTJ.out.gr hgy)
                      have HSY := Lib.hid (HSVJ.out.gr0 hgy)
                      have HBY := Lib.hid (show wy.heap[av]? = some (.cells #[.slice fa m fc, .slice (some ⟨gp, 0, none⟩) k pc] 91 (0, 0)) by rw [hgy.block _ (lt_of_block HBVJ.out) (by simp)]; exact HBVJ.out)
                      cases wi with
                      | true =>
                        have HN5 := Lib.hid (HJ.out.same (Q' := QM (nextOf L a) (j + 1)) (fun i b hq hr => by
                          rcases QM.step HX.out i b hq with h | rfl
                          · exact .inl h
                          · exact .inr (wi_same HWI.out b hr)))
                        clear hgy v0 v1 h0 h1 d4 c6
                        go_wp2_with fail
                        go_roundw
                        case rel => exact ⟨c, F3, P3, j + 1, by omega, rfl, by go_num, HN5.out, HRG3.out, HTY.out, HBY.out, HSY.out, HGY.out, HSZ2.out⟩
                        case measure => simp [intOf]; omega
                      | false =>
                        have HN5 := Lib.hid (show FwJ (boxS k m) L nothing (fpA p.types L) (tS F P) (tS (mF m k F3 kk H) (mP m k P3 kk Q)) true a (rS m k H Q) (QM (nextOf L a) (j + 1)) from by
                          obtain ⟨b, hb1, hb2, hb3⟩ := wi_less hkn HWI.out
                          rw [tS_mrg]
                          exact HJ.out.change (fpA_mono _ _) haL HKM.out (fun _ h => h) hb1 hb2 hb3)
                        replace v0 := hgy.cell v0 (by simp)
                        replace v1 := hgy.cell v1 (by simp)
                        replace h0 := hgy.cell h0 (by simp)
                        replace h1 := hgy.cell h1 (by simp)
                        have HRK := Lib.hid (HTY.out.2.2 kk hkn)
                        have HN1 := Lib.hid (show GP kk ≠ bt from fun e => by
                          obtain ⟨cs, hc⟩ := HTY.out.2.1 bt rfl
                          exact HRK.out.2.2.2.2.1.off' hc (by decide) e.symm)
                        have HN2 := Lib.hid (show GP kk ≠ av from fun e => HRK.out.2.2.2.2.1.off' HBY.out (by decide) e.symm)
                        clear hgy d4 c6
                        go_upto_region 19 with fail
--<RC
                        refine wp_region_held_drew (S := fun w' => Gr wy w' (some (GP kk))) (by kernel_rfl) ((Gr.refl _ _).drew) (fun hHeld => ?_)
                        refine wpAnyH_take (i := 0) (v := ?_) rfl (by kernel_rfl) (by kernel_rfl) (by kernel_rfl) (fun _ _ _ h => h) (Or.inl ⟨by rfl, ?_⟩) hHeld ?_
                        rotate_left
                        focus (intro wq hq; clear hq; go_simp; try with_reducible rfl)
                        simp only [Act.put, List.getElem_toArray, List.getElem_cons_zero, List.setIfInBounds_toArray, List.set_cons_zero, List.set_cons_succ]
                        refine wpAnyH_take (i := 1) (v := ?_) rfl (by kernel_rfl) (by kernel_rfl) (by kernel_rfl) (fun _ _ _ h => h) (Or.inl ⟨by rfl, ?_⟩) hHeld ?_
                        rotate_left
                        focus (intro wq hq; clear hq; go_simp; try with_reducible rfl)
                        simp only [Act.put, List.getElem_toArray, List.getElem_cons_succ, List.getElem_cons_zero, List.setIfInBounds_toArray, List.set_cons_zero, List.set_cons_succ]
                        refine wpAnyH_take (i := 2) (v := ?_) rfl (by kernel_rfl) (by kernel_rfl) (by kernel_rfl) (fun _ _ _ h => h) (Or.inl ⟨by rfl, ?_⟩) hHeld ?_
                        rotate_left
                        focus (intro wq hq; clear hq; go_simp; try with_reducible rfl)
                        simp only [Act.put, List.getElem_toArray, List.getElem_cons_succ, List.getElem_cons_zero, List.setIfInBounds_toArray, List.set_cons_zero, List.set_cons_succ]
                        refine wpAnyH_take (i := 3) (v := ?_) rfl (by kernel_rfl) (by kernel_rfl) (by kernel_rfl) (fun _ _ _ h => h) (Or.inl ⟨by rfl, ?_⟩) hHeld ?_
                        rotate_left
                        focus (intro wq hq; clear hq; go_simp; try with_reducible rfl)
                        simp only [Act.put, List.getElem_toArray, List.getElem_cons_succ, List.getElem_cons_zero, List.setIfInBounds_toArray, List.set_cons_zero, List.set_cons_succ]
                        refine wpAnyH_take (i := 4) (v := ?_) rfl (by kernel_rfl) (by kernel_rfl) (by kernel_rfl) (fun _ _ _ h => h) (Or.inl ⟨by rfl, ?_⟩) hHeld ?_
                        rotate_left
                        focus (intro wq hq; have k0 := hq.cell h1 (by simpa using HN1.out); go_simp; try with_reducible rfl)
                        simp only [Act.put, List.getElem_toArray, List.getElem_cons_succ, List.getElem_cons_zero, List.setIfInBounds_toArray, List.set_cons_zero, List.set_cons_succ]
                        refine wpAnyH_take (i := 5) (v := ?_) rfl (by kernel_rfl) (by kernel_rfl) (by kernel_rfl) (fun _ _ _ h => h) (Or.inl ⟨by rfl, ?_⟩) hHeld ?_
                        rotate_left
                        focus (intro wq hq; clear hq; go_simp; try with_reducible rfl)
                        simp only [Act.put, List.getElem_toArray, List.getElem_cons_succ, List.getElem_cons_zero, List.setIfInBounds_toArray, List.set_cons_zero, List.set_cons_succ]
                        refine wpAnyH_take (i := 6) (v := ?_) rfl (by kernel_rfl) (by kernel_rfl) (by kernel_rfl) (fun _ _ _ h => h) (Or.inl ⟨by rfl, ?_⟩) hHeld ?_
                        rotate_left
                        focus (intro wq hq; have k0 := hq.cell v1 (by simpa using HN2.out); go_simp; try with_reducible rfl)
                        simp only [Act.put, List.getElem_toArray, List.getElem_cons_succ, List.getElem_cons_zero, List.setIfInBounds_toArray, List.set_cons_zero, List.set_cons_succ]
                        refine wpAnyH_ready (rs := [7]) (by kernel_rfl) (by simp) ?_
                        refine AllReadyH.cons rfl (fun K hK => ?_) AllReadyH.nil
                        go_simp
                        refine (l4AddE_any (GP kk) gp k (PC kk) pc (P3 kk) Q _ (HRK.out.2.2.2.2.1.gr0 (Gr.refl _ _).drew) (HSY.out.2.2.2.2.1.gr0 (Gr.refl _ _).drew) (by omega)).mono ?_
                        rintro e w5 ⟨rfl, hR5, hg5⟩
                        try dsimp only
                        refine hK.out _ _ (hHeld.trans hg5 (fun r e => .inl e)) (fun hHeld => ?_)
                        clear hK K
                        try simp only [Act.put, List.getElem_toArray, List.getElem_cons_succ, List.getElem_cons_zero, List.setIfInBounds_toArray, List.set_cons_zero, List.set_cons_succ]
                        refine wpAnyH_done (by kernel_rfl) ?_ _
--RC>
                        have hg5' : Gr wy w5 (some (GP kk)) := ((Gr.refl wy _).drew).trans hg5 (fun r e => .inl e)
                        have hgpm : GP kk ∈ rowsO HS GP kk := List.mem_cons_self
                        have hgl := HLT.out kk hkn _ hgpm
                        have hav := HAV.out
                        have HT5 := Lib.hid (show Tab4 w5 (some ⟨bt, ot, none⟩) A C HS GP PC k m (fV F3 kk H 0) (fun i u => if i = kk then P3 i u || Q u else P3 i u) from (HTY.out.put (F' := F3) HSEP.out hkn hgpm hg5' (by simp only [if_true]; exact HRK.out.putP hg5' hR5) (fun _ _ => rfl) (fun i hi => funext fun u => by simp [hi])).congr (fun i v u _ _ => by unfold fV; simp) (fun _ _ _ => rfl))
                        have HS5 := Lib.hid (HSY.out.apart hg5' (by omega))
                        have HB5 := Lib.hid (show w5.heap[av]? = some (.cells #[.slice fa m fc, .slice (some ⟨gp, 0, none⟩) k pc] 91 (0, 0)) by rw [hg5'.block _ (lt_of_block HBY.out) (by simpa using fun e => HN2.out e.symm)]; exact HBY.out)
                        have HG5 := Lib.hid (show Gr wB w5 none from HGY.out.trans hg5' (fun r e => .inr (by cases e; exact HLO.out kk hkn _ hgpm)))
                        have HZ5 := Lib.hid (show wA.heap.size ≤ w5.heap.size from Nat.le_trans HSZ2.out hg5'.size)
                        clear hg5 hg5' hR5 hgpm hgl hav hHeld v0 v1 h0 h1
                        go_wp2_with fail
                        go_loopw [11] (fun i wv => ∃ u : Nat, u ≤ m ∧ i = .int .i64 u ∧ Tab4 wv (some ⟨bt, ot, none⟩) A C HS GP PC k m (fV F3 kk H u) (fun i u => if i = kk then P3 i u || Q u else P3 i u) ∧ wv.heap[av]? = some (.cells #[.slice fa m fc, .slice (some ⟨gp, 0, none⟩) k pc] 91 (0, 0)) ∧ StE wv wA.heap.size m k fa hs gp pc H Q ∧ Gr wB wv none ∧ wA.heap.size ≤ wv.heap.size) (fun i _ => m - (intOf i).toNat)
                        case atStart => exact ⟨0, Nat.zero_le _, rfl, HT5.out, HB5.out, HS5.out, HG5.out, HZ5.out⟩
                        case round =>
                          obtain ⟨u, hu, rfl, hT, hb, hSu, hgu, hzu⟩ := hrel
                          rename World => wv
                          have HTU := Lib.hid hT
                          have HBU := Lib.hid hb
                          have HSU := Lib.hid hSu
                          have HGU2 := Lib.hid hgu
                          have v0 : wv.cell? ⟨av, 0, none⟩ = some (.slice fa m fc) := cell_of_row _ _ _ _ _ _ hb
                          clear hT hb hSu hgu
                          by_cases hum : u < m
                          · obtain ⟨bt2, ot2, et, h0, -⟩ := HTU.out.cell hkn
                            cases et
                            have HSK := Lib.hid (HTU.out.2.2 kk hkn)
                            have huk : u < (HS kk).length := by rw [HSK.out.1]; exact hum
                            have huh : u < hs.length := by rw [HSU.out.1]; exact hum
                            obtain ⟨bf, of, eA, e0⟩ := hsE_cell HSK.out.2.1 huk
                            obtain ⟨b7, o7, rfl, f0⟩ := hsE_cell HSU.out.2.1 huh
                            have hm1 : (HS kk)[u].1 ∈ rowsO HS GP kk := List.mem_cons_of_mem _ (List.mem_map_of_mem (List.getElem_mem huk))
                            have HR1 := Lib.hid (HSK.out.2.2.1 u huk).2
                            have HR2 := Lib.hid (HSU.out.2.2.1 u huh).2
                            rw [eA] at h0
                            have HEA := Lib.hid eA
                            have HN1 := Lib.hid (show (HS kk)[u].1 ≠ bt from fun e => by
                              obtain ⟨cs, hc⟩ := HTU.out.2.1 bt rfl
                              exact HR1.out.off' hc (by decide) e.symm)
                            have HN2 := Lib.hid (show (HS kk)[u].1 ≠ av from fun e => HR1.out.off' HBU.out (by decide) e.symm)
                            have HN3 := Lib.hid (show (HS kk)[u].1 ≠ bf from fun e => by
                              obtain ⟨_, cs, hc⟩ := HSK.out.2.2.2.2.2.2.2 bf (by rw [HEA.out]; rfl)
                              exact HR1.out.off' hc (by decide) e.symm)
                            have HN4 := Lib.hid (show (HS kk)[u].1 ≠ b7 from fun e => by
                              obtain ⟨_, cs, hc⟩ := HSU.out.2.2.2.2.2.2.2 b7 rfl
                              exact HR1.out.off' hc (by decide) e.symm)
                            have HPUT := Lib.hid (fun (w6 : World) (h6 : Gr wv w6 (some (HS kk)[u].1)) (hR : RowE w6 (HS kk)[u].1 k (HS kk)[u].2 (fun j => fV F3 kk H u kk u j || H u j)) => show Tab4 w6 (some ⟨bt, ot, none⟩) A C HS GP PC k m (fV F3 kk H (u + 1)) (fun i u => if i = kk then P3 i u || Q u else P3 i u) ∧ w6.heap[av]? = some (.cells #[.slice (some ⟨b7, o7, none⟩) m fc, .slice (some ⟨gp, 0, none⟩) k pc] 91 (0, 0)) ∧ StE w6 wA.heap.size m k (some ⟨b7, o7, none⟩) hs gp pc H Q ∧ Gr wB w6 none ∧ wA.heap.size ≤ w6.heap.size from by
                              have hlt := HLT.out kk hkn _ hm1
                              have hav := HAV.out
                              refine ⟨?_, by rw [h6.block _ (lt_of_block HBU.out) (by simpa using fun e => HN2.out e.symm)]; exact HBU.out, HSU.out.apart h6 (by omega), HGU2.out.trans h6 (fun r e => .inr (by cases e; exact HLO.out kk hkn _ hm1)), Nat.le_trans hzu h6.size⟩
                              refine HTU.out.put HSEP.out hkn hm1 h6 (HSK.out.putF huk h6 (hR.congr fun j _ => ?_) fun u' hu' => ?_) (fun i hi => ?_) (fun _ _ => rfl)
                              · unfold fV; simp
                              · funext j
                                unfold fV
                                have : (u' < u + 1) = (u' < u) := by apply propext; omega
                                simp [this]
                              · funext v j
                                unfold fV
                                simp [hi])
                            obtain ⟨⟨g1, c1⟩, hk1⟩ : ∃ x, (HS kk)[u] = x := ⟨_, rfl⟩
                            obtain ⟨⟨g2, c2⟩, hk2⟩ : ∃ x, hs[u] = x := ⟨_, rfl⟩
                            rw [hk1] at HR1 HN1 HN2 HN3 HN4 HPUT e0
                            rw [hk2] at HR2 f0
                            clear eA hk1 hk2 hm1
                            go_upto_region 23 with fail
--<RD
                            refine wp_region_held_drew (S := fun w' => Gr wv w' (some g1)) (by kernel_rfl) ((Gr.refl _ _).drew) (fun hHeld => ?_)
                            refine wpAnyH_take (i := 0) (v := ?_) rfl (by kernel_rfl) (by kernel_rfl) (by kernel_rfl) (fun _ _ _ h => h) (Or.inl ⟨by rfl, ?_⟩) hHeld ?_
                            rotate_left
                            focus (intro wq hq; clear hq; go_simp; try with_reducible rfl)
                            simp only [Act.put, List.getElem_toArray, List.getElem_cons_zero, List.setIfInBounds_toArray, List.set_cons_zero, List.set_cons_succ]
                            refine wpAnyH_take (i := 1) (v := ?_) rfl (by kernel_rfl) (by kernel_rfl) (by kernel_rfl) (fun _ _ _ h => h) (Or.inl ⟨by rfl, ?_⟩) hHeld ?_
                            rotate_left
                            focus (intro wq hq; clear hq; go_simp; try with_reducible rfl)
                            simp only [Act.put, List.getElem_toArray, List.getElem_cons_succ, List.getElem_cons_zero, List.setIfInBounds_toArray, List.set_cons_zero, List.set_cons_succ]
                            refine wpAnyH_take (i := 2) (v := ?_) rfl (by kernel_rfl) (by kernel_rfl) (by kernel_rfl) (fun _ _ _ h => h) (Or.inl ⟨by rfl, ?_⟩) hHeld ?_
                            rotate_left
                            focus (intro wq hq; clear hq; go_simp; try with_reducible rfl)
                            simp only [Act.put, List.getElem_toArray, List.getElem_cons_succ, List.getElem_cons_zero, List.setIfInBounds_toArray, List.set_cons_zero, List.set_cons_succ]
                            refine wpAnyH_take (i := 3) (v := ?_) rfl (by kernel_rfl) (by kernel_rfl) (by kernel_rfl) (fun _ _ _ h => h) (Or.inl ⟨by rfl, ?_⟩) hHeld ?_
                            rotate_left
                            focus (intro wq hq; clear hq; go_simp; try with_reducible rfl)
                            simp only [Act.put, List.getElem_toArray, List.getElem_cons_succ, List.getElem_cons_zero, List.setIfInBounds_toArray, List.set_cons_zero, List.set_cons_succ]
                            refine wpAnyH_take (i := 4) (v := ?_) rfl (by kernel_rfl) (by kernel_rfl) (by kernel_rfl) (fun _ _ _ h => h) (Or.inl ⟨by rfl, ?_⟩) hHeld ?_
                            rotate_left
                            focus (intro wq hq; have k0 := hq.cell h0 (by simpa using HN1.out); go_simp; try with_reducible rfl)
                            simp only [Act.put, List.getElem_toArray, List.getElem_cons_succ, List.getElem_cons_zero, List.setIfInBounds_toArray, List.set_cons_zero, List.set_cons_succ]
                            refine wpAnyH_take (i := 5) (v := ?_) rfl (by kernel_rfl) (by kernel_rfl) (by kernel_rfl) (fun _ _ _ h => h) (Or.inl ⟨by rfl, ?_⟩) hHeld ?_
                            rotate_left
                            focus (intro wq hq; clear hq; go_simp; try with_reducible rfl)
                            simp only [Act.put, List.getElem_toArray, List.getElem_cons_succ, List.getElem_cons_zero, List.setIfInBounds_toArray, List.set_cons_zero, List.set_cons_succ]
                            refine wpAnyH_take (i := 6) (v := ?_) rfl (by kernel_rfl) (by kernel_rfl) (by kernel_rfl) (fun _ _ _ h => h) (Or.inl ⟨by rfl, ?_⟩) hHeld ?_
                            rotate_left
                            focus (intro wq hq; clear hq; go_simp; try with_reducible rfl)
                            simp only [Act.put, List.getElem_toArray, List.getElem_cons_succ, List.getElem_cons_zero, List.setIfInBounds_toArray, List.set_cons_zero, List.set_cons_succ]
                            refine wpAnyH_take (i := 7) (v := ?_) rfl (by kernel_rfl) (by kernel_rfl) (by kernel_rfl) (fun _ _ _ h => h) (Or.inl ⟨by rfl, ?_⟩) hHeld ?_
                            rotate_left
                            focus (intro wq hq; have k0 := hq.cell e0 (by simpa using HN3.out); go_simp; try with_reducible rfl)
                            simp only [Act.put, List.getElem_toArray, List.getElem_cons_succ, List.getElem_cons_zero, List.setIfInBounds_toArray, List.set_cons_zero, List.set_cons_succ]
                            refine wpAnyH_take (i := 8) (v := ?_) rfl (by kernel_rfl) (by kernel_rfl) (by kernel_rfl) (fun _ _ _ h => h) (Or.inl ⟨by rfl, ?_⟩) hHeld ?_
                            rotate_left
                            focus (intro wq hq; clear hq; go_simp; try with_reducible rfl)
                            simp only [Act.put, List.getElem_toArray, List.getElem_cons_succ, List.getElem_cons_zero, List.setIfInBounds_toArray, List.set_cons_zero, List.set_cons_succ]
                            refine wpAnyH_take (i := 9) (v := ?_) rfl (by kernel_rfl) (by kernel_rfl) (by kernel_rfl) (fun _ _ _ h => h) (Or.inl ⟨by rfl, ?_⟩) hHeld ?_
                            rotate_left
                            focus (intro wq hq; have k0 := hq.cell v0 (by simpa using HN2.out); go_simp; try with_reducible rfl)
                            simp only [Act.put, List.getElem_toArray, List.getElem_cons_succ, List.getElem_cons_zero, List.setIfInBounds_toArray, List.set_cons_zero, List.set_cons_succ]
                            refine wpAnyH_take (i := 10) (v := ?_) rfl (by kernel_rfl) (by kernel_rfl) (by kernel_rfl) (fun _ _ _ h => h) (Or.inl ⟨by rfl, ?_⟩) hHeld ?_
                            rotate_left
                            focus (intro wq hq; clear hq; go_simp; try with_reducible rfl)
                            simp only [Act.put, List.getElem_toArray, List.getElem_cons_succ, List.getElem_cons_zero, List.setIfInBounds_toArray, List.set_cons_zero, List.set_cons_succ]
                            refine wpAnyH_take (i := 11) (v := ?_) rfl (by kernel_rfl) (by kernel_rfl) (by kernel_rfl) (fun _ _ _ h => h) (Or.inl ⟨by rfl, ?_⟩) hHeld ?_
                            rotate_left
                            focus (intro wq hq; clear hq; go_simp; try with_reducible rfl)
                            simp only [Act.put, List.getElem_toArray, List.getElem_cons_succ, List.getElem_cons_zero, List.setIfInBounds_toArray, List.set_cons_zero, List.set_cons_succ]
                            refine wpAnyH_take (i := 12) (v := ?_) rfl (by kernel_rfl) (by kernel_rfl) (by kernel_rfl) (fun _ _ _ h => h) (Or.inl ⟨by rfl, ?_⟩) hHeld ?_
                            rotate_left
                            focus (intro wq hq; have k0 := hq.cell f0 (by simpa using HN4.out); go_simp; try with_reducible rfl)
                            simp only [Act.put, List.getElem_toArray, List.getElem_cons_succ, List.getElem_cons_zero, List.setIfInBounds_toArray, List.set_cons_zero, List.set_cons_succ]
                            refine wpAnyH_ready (rs := [13]) (by kernel_rfl) (by simp) ?_
                            refine AllReadyH.cons rfl (fun K hK => ?_) AllReadyH.nil
                            go_simp
                            refine (l4AddE_any g1 g2 k c1 c2 (fV F3 kk H u kk u) (H u) _ (HR1.out.gr0 (Gr.refl _ _).drew) (HR2.out.gr0 (Gr.refl _ _).drew) (by omega)).mono ?_
                            rintro e w6 ⟨rfl, hR6, hg6⟩
                            try dsimp only
                            refine hK.out _ _ (hHeld.trans hg6 (fun r e => .inl e)) (fun hHeld => ?_)
                            clear hK K
                            try simp only [Act.put, List.getElem_toArray, List.getElem_cons_succ, List.getElem_cons_zero, List.setIfInBounds_toArray, List.set_cons_zero, List.set_cons_succ]
                            refine wpAnyH_done (by kernel_rfl) ?_ _
--RD>
                            have hg6' : Gr wv w6 (some g1) := ((Gr.refl wv _).drew).trans hg6 (fun r e => .inl e)
                            have HP := Lib.hid (HPUT.out w6 hg6' hR6)
                            clear hg6 hg6' hR6 hHeld v0 h0 e0 f0
                            go_wp2_with fail
                            go_roundw
                            case rel => exact ⟨u + 1, by omega, by go_num, HP.out⟩
                            case measure => simp [intOf]; omega
                          · obtain rfl : u = m := by omega
                            have HTN := Lib.hid (show Tab4 wv (some ⟨bt, ot, none⟩) A C HS GP PC k u (mF u k F3 kk H) (mP u k P3 kk Q) from HTU.out.congr (fun i v j hv hj => by unfold fV mF rS; by_cases e : i = kk <;> simp [e, hv, hj]) (fun i j hj => by unfold mP rS; by_cases e : i = kk <;> simp [e, hj]))
                            go_wp2_with fail
                            go_roundw
                            case rel => exact ⟨true, _, _, j + 1, by omega, rfl, by go_num, HN5.out, HRG3.out.mrg, HTN.out, HBU.out, HSU.out, HGU2.out, hzu⟩
                            case measure => simp [intOf]; omega
                  · obtain rfl : j = nn := by omega
                    clear v0 v1 hinj
                    go_wp2_with fail
                    go_roundw
                    case rel => exact ⟨c, F3, P3, a + 1, by omega, rfl, by go_num, HJ.out.exit (fun i hi b _ => QM.exit (by rw [HNQ.out, HNNX.out]; exact Nat.le_refl _) i hi b), HRG3.out, HTJ.out, HGJ.out, by have := HAV.out; omega⟩
                    case measure => simp [intOf]; omega
            · obtain rfl : a = k := by omega
              go_wp2_with fail
              go_roundg (leftG (boxS a m) (tS F2 P2) c)
              case measure => exact HR.out.left
              case rel => exact ⟨c, F2, P2, rfl, rfl, HR.out.done (by rw [HN.out]; exact Nat.le_refl _), HRG.out, HT4.out, hg, hsz⟩
end Go.Proofs.Ytadlnjglpigjmaa

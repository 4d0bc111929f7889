/- LoansIn, PlacedLoans: walks of the program's and of the reference's. -/
import Derived.Test.YtadlnjglpigjmaaER

import Derived.Test.YtadlnjglpigjmaaED

import Derived.Test.YtadlnjglpigjmaaU2

import Derived.Test.YtadlnjglpigjmaaS1

import Derived.Test.YtadlnjglpigjmaaF1

namespace Go.Proofs.Ytadlnjglpigjmaa

open Go.RowKit

noncomputable def loansInOf (p : Pr) (a v : Int) : List Int := if hasPoint p a v = true then coll (trkB p (loanV p.types (pts p)) a.toNat v.toNat) (pts p).length else []
noncomputable def placedOf (p : Pr) (a : Int) : List Int := if 0 ≤ a ∧ a < (ptsOf p).length then coll (plB p a.toNat) (pts p).length else []
theorem loansInOf_in {p : Pr} {i j : Nat} (h : hasPoint p i j = true) : loansInOf p i j = coll (trkB p (loanV p.types (pts p)) i j) (pts p).length := by unfold loansInOf; rw [if_pos h]; rfl
theorem loansInOf_out {p : Pr} {a v : Int} (h : hasPoint p a v = false) : loansInOf p a v = [] := by unfold loansInOf; rw [h]; rfl
theorem placedOf_in {p : Pr} {k : Nat} (hk : k < (ptsOf p).length) : placedOf p k = coll (plB p k) (pts p).length := by unfold placedOf; rw [if_pos ⟨by omega, by omega⟩]; rfl
theorem placedOf_out {p : Pr} {a : Int} (h : ¬ (0 ≤ a ∧ a < (ptsOf p).length)) : placedOf p a = [] := by unfold placedOf; rw [if_neg h]
theorem hasPoint_ptsE {p : Pr} {a v : Int} (h : hasPoint p a v = true) : validP p = true ∧ ∃ i j : Nat, a = i ∧ v = j ∧ i < (pts p).length ∧ j < p.types.length := by
  have hin : (0 ≤ a ∧ a < (ptsOf p).length) ∧ 0 ≤ v ∧ v < p.types.length := by unfold hasPoint at h; simp at h; omega
  have hv : validP p = true := valid_posE (by omega)
  have hp : ptsOf p = pts p := by unfold ptsOf; rw [if_pos hv]
  rw [hp] at hin
  exact ⟨hv, a.toNat, v.toNat, by omega, by omega, by omega, by omega⟩
theorem hasPoint_ofE {p : Pr} (hv : validP p = true) {i j : Nat} (hi : i < (pts p).length) (hj : j < p.types.length) : hasPoint p i j = true := by
  have hp : ptsOf p = pts p := by unfold ptsOf; rw [if_pos hv]
  unfold hasPoint; rw [hp]; simp [hi, hj]
theorem hasPoint_no1E {p : Pr} {a v : Int} (h : ¬ (0 ≤ a ∧ a < (ptsOf p).length)) : hasPoint p a v = false := by
  unfold hasPoint
  rw [Bool.and_assoc, Bool.and_eq_false_iff]
  exact .inl (by simp; omega)
theorem hasPoint_no2E {p : Pr} {a v : Int} (h : (decide (0 ≤ v) && decide (v < p.types.length)) = false) : hasPoint p a v = false := by
  unfold hasPoint
  rw [Bool.and_eq_false_iff] at h
  rcases h with h | h <;> rw [h] <;> simp
theorem trk_smallE {p : Pr} {val : Nat → (Nat × Nat → Prop) → Nat → Prop} (n : Nat) (hval : ∀ i, i < (pts p).length → ∀ Y : Nat × Nat → Prop, (∀ b, Y b → b.2 < n) → ∀ k, val i Y k → k < n) {i v k : Nat} (h : trkB p val i v k = true) : k < n := by
  have := (trkB_iff.1 h) (fun _ b => b.2 < n) (by
    rintro i b (⟨_, hb⟩ | ⟨j, hj, hn, hb⟩)
    · exact hb.elim
    · unfold trkA at hb
      split at hb
      · exact hval j hj _ (fun _ h => h) _ hb
      · exact hb.2)
  exact this
theorem loan_small {p : Pr} {i v k : Nat} (h : trkB p (loanV p.types (pts p)) i v k = true) : k < (pts p).length :=
  trk_smallE _ (fun i hi Y hY k hk => by
    rcases hk with ⟨_, rfl⟩ | ⟨_, hk⟩
    · exact hi
    · exact hY _ hk) h
theorem loansInOf_len (p : Pr) (a v : Int) : (loansInOf p a v).length ≤ 1048576 := by
  unfold loansInOf
  split
  · rename_i h
    have := coll_len (trkB p (loanV p.types (pts p)) a.toNat v.toNat) (pts p).length
    have := pts_len (hasPoint_ptsE h).1
    omega
  · simp
theorem placedOf_len (p : Pr) (a : Int) : (placedOf p a).length ≤ 1048576 := by
  unfold placedOf
  split
  · rename_i h
    have := coll_len (plB p a.toNat) (pts p).length
    have := pts_len (valid_posE (p := p) (by omega))
    omega
  · simp
set_option maxRecDepth 100000 in
set_option maxHeartbeats 1000000 in
theorem l4NumbersE_any (gf n m c : Nat) (F : Nat → Bool) (w : World) (hF : RowE w gf n m F) (hn : n ≤ 1000) :
    Calls Try.prog 56 #[.slice (some ⟨gf, 0, none⟩) n c] w (HandI (coll F n) w) := by
  have HF := Lib.hid (fun k (hk : k < n) => hF.cell hk)
  clear hF
  have hG1 : Gr w (w.alloc (.cells #[] 3)) none := (Gr.refl _ _).alloc _
  have hE : (w.alloc (.cells #[] 3)).heap[w.heap.size]? = some (.cells #[] 3 (0, 0)) := heap1_0 _ _
  go_enter Try.func56, Try.ntmps56
  go_wp2_with fail
  generalize w.alloc (.cells #[] 3) = w1 at *
  have hC0 : Coll w1 w.heap.size w1.heap.size F 0 (some ⟨w.heap.size, 0, none⟩) 0 0 := Coll.empty hG1.size _ (Nat.le_refl _) hE
  go_loopw [3, 4] (fun v i wr => ∃ (k m cap : Nat) (ao : Option Addr), k ≤ n ∧ i = .int .i64 k ∧ v = .slice ao m cap ∧ Coll wr w.heap.size w1.heap.size F k ao m cap ∧ Gr w1 wr none) (fun _ i _ => n - (intOf i).toNat)
  case atStart => exact ⟨0, 0, 0, _, Nat.zero_le _, rfl, rfl, hC0, Gr.refl _ _⟩
  case round =>
    obtain ⟨k, m, cap, ao, hkl, rfl, rfl, hCo, hgr⟩ := hrel
    have hnk := hCo.le
    have HCo := Lib.hid hCo
    clear hCo hC0
    by_cases hlt : k < n
    · have hck := (hG1.trans0 hgr).cell (HF.out k hlt) (by simp)
      cases hd : F k with
      | true =>
        have HD := Lib.hid hd
        rw [hd] at hck
        clear hd
        go_wp2_with (at_builtin; refine app_c wr _ rfl (.tmp 16) (.tmp 18) rfl w.heap.size w1.heap.size ao cap m _ k rfl HCo.out ((Gr.refl _ _).alloc _) HD.out wr.heap.size 1 rfl (cell_of_row _ _ _ _ _ _ (heap1_0 _ _)) (by omega) hgr.size ?_; rintro g cap' w4 hC4 hg4)
        go_roundw
        case rel => exact ⟨k + 1, m + 1, cap', _, by omega, by go_num, rfl, hC4, hg4 _ (hgr.alloc _) (Nat.le_refl _)⟩
        case measure => simp [intOf]; omega
      | false =>
        have HD := Lib.hid hd
        rw [hd] at hck
        clear hd
        go_wp2_with fail
        go_roundw
        case rel => exact ⟨k + 1, m, cap, ao, by omega, by go_num, rfl, HCo.out.no HD.out, hgr⟩
        case measure => simp [intOf]; omega
    · obtain rfl : k = n := by omega
      go_wp2_with fail
      go_ret
      exact HCo.out.hand rfl (hG1.trans0 hgr)
set_option maxRecDepth 100000 in
set_option maxHeartbeats 1000000 in
theorem implLoansIn_any (p : Pr) (a v : Int) (at' ab : Option Addr) (ct cb : Nat) (w : World) (hT : InAt w Any p.types at') (hB : SlAt w Any p.body ab) (hs : p.types.length ≤ 1048576) (hc : p.body.length ≤ 1048576) :
    Calls Try.prog 47 #[.agg #[.slice at' p.types.length ct, .slice ab p.body.length cb], .int .i64 a, .int .i64 v] w (HandI (loansInOf p a v) w) := by
  have hg1 : ∀ o o', Gr w ((w.alloc o).alloc o') none := fun o o' => ((Gr.refl _ _).alloc _).alloc _
  go_enter Try.func47, Try.ntmps47
  go_wp2_with fail
  refine (graphOf_any p [a] at' ab _ ct cb _ _ (hT.gr0 (hg1 _ _)) (hB.gr0 (hg1 _ _)) (inAt_one _ _ _) hs hc (by simp)).mono ?_
  rintro e w1 ⟨hg, hif⟩
  have hG1 : Gr w w1 none := (hg1 _ _).trans0 hg
  clear hg
  rw [graph_oneE] at hif
  by_cases hok : 0 ≤ a ∧ a < (ptsOf p).length
  · rw [if_pos (by simp [hok])] at hif
    obtain ⟨gb, rfl, hgb, hGA⟩ := hif
    have hv : validP p = true := valid_posE (by omega)
    have hp : ptsOf p = pts p := by unfold ptsOf; rw [if_pos hv]
    rw [hp] at hok
    obtain ⟨i, rfl⟩ := Int.eq_ofNat_of_zero_le hok.1
    have hi : i < (pts p).length := by omega
    have HV := Lib.hid hv
    have h6 := valid_types hv
    have hl : (pts p).length ≤ 61 := pts_len hv
    clear hok hv hp
    go_wp2_with fail
    refine (isVar_any p gb v _ hGA hs).mono ?_
    rw [within_var]
    rintro e w2 ⟨rfl, rfl⟩
    cases hw : (decide (0 ≤ v) && decide (v < p.types.length)) with
    | false =>
      have HO := Lib.hid (show loansInOf p i v = [] from loansInOf_out (hasPoint_no2E hw))
      clear hw
      go_wp2_with fail
      go_ret
      rw [HO.out]
      exact HandI.nil _ _ hG1
    | true =>
      simp only [Bool.and_eq_true, decide_eq_true_eq] at hw
      obtain ⟨j, rfl⟩ := Int.eq_ofNat_of_zero_le hw.1
      have hj : j < p.types.length := by omega
      have hj6 : j < 6 := by omega
      clear hw
      go_wp2_with fail
      refine (loansIn_any p gb _ hGA HV.out).mono ?_
      rintro e w3 ⟨g, W, rfl, hF, h64, ht, hg3⟩
      have tj := hF.cell hi hj6
      have HO := Lib.hid (show coll (W i j).testBit 64 = loansInOf p i j from by
        rw [loansInOf_in (hasPoint_ofE HV.out hi hj), ← coll_up (F := trkB p (loanV p.types (pts p)) i j) (fun k hk => ?_) 64 (by omega)]
        · refine coll_congr fun k _ => ?_
          rw [Bool.eq_iff_iff, trkB_iff]
          exact ht i (j, k)
        · cases h : trkB p (loanV p.types (pts p)) i j k with
          | false => rfl
          | true => have := loan_small h; omega)
      have H1 := Lib.hid (h64 i j)
      obtain ⟨x, hx⟩ : ∃ x, W i j = x := ⟨_, rfl⟩
      rw [hx] at tj HO H1
      obtain ⟨n, hn⟩ : ∃ n, (pts p).length = n := ⟨_, rfl⟩
      rw [hn] at hi ⊢
      clear hF h64 ht hx hn hl
      go_wp2_with fail
      refine (loanBits_any x _ H1.out).mono ?_
      rw [HO.out]
      intro e w4 hh
      have hhh := HandI.aft hh (hG1.trans0 hg3)
      obtain ⟨a4, c4, rfl, -⟩ := hh
      have HH := Lib.hid hhh
      clear hhh
      go_wp2_with fail
      go_ret
      exact HH.out
  · rw [if_neg (by simp; omega)] at hif
    subst hif
    have HO := Lib.hid (show loansInOf p a v = [] from loansInOf_out (hasPoint_no1E hok))
    clear hok
    go_wp2_with fail
    go_ret
    rw [HO.out]
    exact HandI.nil _ _ hG1
set_option maxRecDepth 100000 in
set_option maxHeartbeats 1000000 in
theorem implPlacedLoans_any (p : Pr) (a : Int) (at' ab : Option Addr) (ct cb : Nat) (w : World) (hT : InAt w Any p.types at') (hB : SlAt w Any p.body ab) (hs : p.types.length ≤ 1048576) (hc : p.body.length ≤ 1048576) :
    Calls Try.prog 45 #[.agg #[.slice at' p.types.length ct, .slice ab p.body.length cb], .int .i64 a] w (HandI (placedOf p a) w) := by
  have hg1 : ∀ o o', Gr w ((w.alloc o).alloc o') none := fun o o' => ((Gr.refl _ _).alloc _).alloc _
  go_enter Try.func45, Try.ntmps45
  go_wp2_with fail
  refine (graphOf_any p [a] at' ab _ ct cb _ _ (hT.gr0 (hg1 _ _)) (hB.gr0 (hg1 _ _)) (inAt_one _ _ _) hs hc (by simp)).mono ?_
  rintro e w1 ⟨hg, hif⟩
  have hG1 : Gr w w1 none := (hg1 _ _).trans0 hg
  clear hg
  rw [graph_oneE] at hif
  by_cases hok : 0 ≤ a ∧ a < (ptsOf p).length
  · rw [if_pos (by simp [hok])] at hif
    obtain ⟨gb, rfl, hgb, hGA⟩ := hif
    obtain ⟨k, rfl⟩ := Int.eq_ofNat_of_zero_le hok.1
    have hk : k < (ptsOf p).length := by omega
    have hv : validP p = true := valid_posE (by omega)
    have hpp : ptsOf p = pts p := by unfold ptsOf; rw [if_pos hv]
    have HO := Lib.hid (placedOf_in hk)
    rw [hpp] at hk
    have hl : (pts p).length ≤ 61 := pts_len hv
    have HV := Lib.hid hv
    clear hok hv hpp
    go_wp2_with fail
    refine (placed_any p gb _ hGA HV.out).mono ?_
    rintro e w2 ⟨go, O, rfl, hW, hO6, hN, hg2⟩
    have HB := Lib.hid (show coll (O k).testBit 64 = placedOf p k from by
      rw [HO.out, ← coll_up (F := plB p k) (fun u hu => ?_) 64 (by omega)]
      · exact coll_congr fun u _ => hN k u
      · cases h : plB p k u with
        | false => rfl
        | true => have := plB_lt h; omega)
    have c0 := URow.cell hW hk
    have h06 := hO6 k
    obtain ⟨x, hx⟩ : ∃ x, O k = x := ⟨_, rfl⟩
    rw [hx] at c0 HB h06
    clear hN hO6 hx hW
    go_wp2_with fail
    refine (loanBits_any x _ h06).mono ?_
    rw [HB.out]
    intro e w4 hh
    have hhh := HandI.aft hh (hG1.trans0 hg2)
    obtain ⟨a4, c4, rfl, -⟩ := hh
    have HH := Lib.hid hhh
    clear hhh
    go_wp2_with fail
    go_ret
    exact HH.out
  · rw [if_neg (by simp; omega)] at hif
    subst hif
    have HO := Lib.hid (placedOf_out hok)
    clear hok
    go_wp2_with fail
    go_ret
    rw [HO.out]
    exact HandI.nil _ _ hG1
set_option maxRecDepth 100000 in
set_option maxHeartbeats 4000000 in
theorem specLoansIn_any (p : Pr) (a v : Int) (at' ab : Option Addr) (ct cb : Nat) (w : World) (hT : InAt w Any p.types at') (hB : SlAt w Any p.body ab) (hs : p.types.length ≤ 1048576) (hc : St.count p.body ≤ 1048576) :
    Calls Try.prog 46 #[.agg #[.slice at' p.types.length ct, .slice ab p.body.length cb], .int .i64 a, .int .i64 v] w (HandI (loansInOf p a v) w) := by
  have hlc := count_length p.body
  have hg1 : ∀ o, Gr w (w.alloc o) none := fun o => (Gr.refl _ _).alloc _
  go_enter Try.func46, Try.ntmps46
  go_wp2_with fail
  refine (l3Point_any p a v at' ab ct cb _ (hT.gr0 (hg1 _)) (hB.gr0 (hg1 _)) hs hc).mono ?_
  rintro e w1 ⟨rfl, hg⟩
  have hG1 : Gr w w1 none := (hg1 _).trans0 hg
  have q0 : w1.cell? ⟨w.heap.size, 0, none⟩ = some (.slice at' p.types.length ct) := hg.cell (p := ⟨w.heap.size, 0, none⟩) (cell?_new2 _ _).1 (by simp)
  have q1 : w1.cell? ⟨w.heap.size, 1, none⟩ = some (.slice ab p.body.length cb) := hg.cell (p := ⟨w.heap.size, 1, none⟩) (cell?_new2 _ _).2 (by simp)
  clear hg
  cases h1 : hasPoint p a v with
  | false =>
    have HO := Lib.hid (show loansInOf p a v = [] from loansInOf_out h1)
    clear h1
    go_wp2_with fail
    go_ret
    rw [HO.out]
    exact Lst.hand (Lst.empty hG1.size hG1.size (heap1_0 _ _)) rfl (hG1.alloc _)
  | true =>
    obtain ⟨hv, i, j, rfl, rfl, hi, hj⟩ := hasPoint_ptsE h1
    have hml : (pts p).length ≤ 61 := pts_len hv
    have HV := Lib.hid hv
    have HO := Lib.hid (show loansInOf p i j = coll (trkB p (loanV p.types (pts p)) i j) (pts p).length from loansInOf_in h1)
    clear h1 hv
    go_wp2_with fail
    refine (l4Flow_any p at' ab ct cb _ (hT.gr0 hG1) (hB.gr0 hG1) HV.out).mono ?_
    rintro e w2 ⟨ao, c2, A, C, HS, GP, PC, rfl, hT4, hg2⟩
    obtain ⟨bt, ot, rfl, h0, h1⟩ := hT4.cell hi
    have hSi := hT4.2.2 i hi
    have hjh : j < (HS i).length := by rw [hSi.1]; exact hj
    obtain ⟨bf, of, eA, e0⟩ := hsE_cell hSi.2.1 hjh
    have hr := (hSi.2.2.1 j hjh).2
    obtain ⟨⟨g1, c1⟩, hk1⟩ : ∃ x, (HS i)[j] = x := ⟨_, rfl⟩
    rw [hk1] at hr e0
    rw [eA] at h0
    have HR := Lib.hid hr
    obtain ⟨n, hn⟩ : ∃ n, (pts p).length = n := ⟨_, rfl⟩
    rw [hn] at hi h1 HR hml HO e0
    have hG2 := hG1.trans0 hg2
    clear hT4 hSi hr hk1 eA
    rw [hn]
    clear hn
    go_wp2_with fail
    refine (l4NumbersE_any g1 n c1 c1 (trkB p (loanV p.types (pts p)) i j) _ HR.out (by omega)).mono ?_
    rw [← HO.out]
    intro e w4 hh
    have hhh := HandI.aft hh hG2
    obtain ⟨a4, c4, rfl, -⟩ := hh
    have HH := Lib.hid hhh
    clear hhh
    go_wp2_with fail
    go_ret
    exact HH.out
set_option maxRecDepth 100000 in
set_option maxHeartbeats 4000000 in
theorem specPlacedLoans_any (p : Pr) (a : Int) (at' ab : Option Addr) (ct cb : Nat) (w : World) (hT : InAt w Any p.types at') (hB : SlAt w Any p.body ab) (hs : p.types.length ≤ 1048576) (hc : St.count p.body ≤ 1048576) :
    Calls Try.prog 44 #[.agg #[.slice at' p.types.length ct, .slice ab p.body.length cb], .int .i64 a] w (HandI (placedOf p a) w) := by
  have hlc := count_length p.body
  have hg1 : ∀ o, Gr w (w.alloc o) none := fun o => (Gr.refl _ _).alloc _
  by_cases h0 : a < 0
  · have HO := Lib.hid (placedOf_out (p := p) (a := a) (by omega))
    go_enter Try.func44, Try.ntmps44
    go_wp2_with fail
    go_ret
    rw [HO.out]
    exact Lst.hand (Lst.empty (base := w.heap.size) (Nat.le_refl _) (by omega) (heap2_1 _ _ _)) rfl ((hg1 _).alloc _)
  have h0' : 0 ≤ a := by omega
  have hd0 : decide (a < 0) = false := decide_eq_false h0
  go_enter Try.func44, Try.ntmps44
  go_wp2_with fail
  refine (specPointsOf_any p at' ab ct cb _ (hT.gr0 (hg1 _)) (hB.gr0 (hg1 _)) hs hc).mono ?_
  rintro e w1 ⟨M, am, c, hM, rfl, -, hg⟩
  have hG1 : Gr w w1 none := (hg1 _).trans0 hg
  have q0 : w1.cell? ⟨w.heap.size, 0, none⟩ = some (.slice at' p.types.length ct) := hg.cell (p := ⟨w.heap.size, 0, none⟩) (cell?_new2 _ _).1 (by simp)
  have q1 : w1.cell? ⟨w.heap.size, 1, none⟩ = some (.slice ab p.body.length cb) := hg.cell (p := ⟨w.heap.size, 1, none⟩) (cell?_new2 _ _).2 (by simp)
  have HM := Lib.hid hM
  clear hg hM
  by_cases h1 : (M.length : Int) ≤ a
  · have HO := Lib.hid (placedOf_out (p := p) (a := a) (by rw [← HM.out]; omega))
    go_wp2_with fail
    go_ret
    rw [HO.out]
    exact Lst.hand (Lst.empty hG1.size hG1.size (heap1_0 _ _)) rfl (hG1.alloc _)
  · obtain ⟨k, rfl⟩ := Int.eq_ofNat_of_zero_le h0'
    have hk : k < (ptsOf p).length := by rw [← HM.out]; omega
    have hv : validP p = true := valid_posE (by omega)
    have HO := Lib.hid (placedOf_in hk)
    have hpp : ptsOf p = pts p := by unfold ptsOf; rw [if_pos hv]
    rw [hpp] at hk
    have hpl := valid_types hv
    have HV := Lib.hid hv
    clear hpp hv
    go_wp2_with fail
    refine (l4Flow_any p at' ab ct cb _ (hT.gr0 hG1) (hB.gr0 hG1) HV.out).mono ?_
    rintro e w2 ⟨ao, c2, A, C, HS, GP, PC, rfl, hT4, hg2⟩
    obtain ⟨bt, ot, rfl, h0, h1⟩ := hT4.cell hk
    have HR := Lib.hid (hT4.2.2 k hk).2.2.2.2.1
    have hpn := pts_len HV.out
    obtain ⟨n, hn⟩ : ∃ n, (pts p).length = n := ⟨_, rfl⟩
    rw [hn] at hk h1 HR hpn HO
    have hG2 := hG1.trans0 hg2
    clear hT4
    rw [hn]
    clear hn
    go_wp2_with fail
    refine (l4NumbersE_any (GP k) n (PC k) (PC k) (plB p k) _ HR.out (by omega)).mono ?_
    rw [← HO.out]
    intro e w4 hh
    have hhh := HandI.aft hh hG2
    obtain ⟨a4, c4, rfl, -⟩ := hh
    have HH := Lib.hid hhh
    clear hhh
    go_wp2_with fail
    go_ret
    exact HH.out
end Go.Proofs.Ytadlnjglpigjmaa

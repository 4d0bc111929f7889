/- What always has a value, what may have one: walks of AlwaysSet, MaybeSet, l3Unset, UnsetUses of the reference. -/
import Derived.Test.YtadlnjglpigjmaaEE

import Derived.Test.YtadlnjglpigjmaaEH

namespace Go.Proofs.Ytadlnjglpigjmaa

open Go.RowKit

set_option maxRecDepth 100000 in
set_option maxHeartbeats 1000000 in
theorem l3NumbersE_any (gf n m c : Nat) (F : Nat → Bool) (w : World) (hF : RowE w gf n m F) (hn : n ≤ 1000) :
    Calls Try.prog 56 #[.slice (some ⟨gf, 0, none⟩) n c] w (HandI (coll F n) w) := by
  have HF := Lib.hid (fun k (hk : k < n) => hF.cell hk)
  clear hF
  have hG1 : Gr w (w.alloc (.cells #[] 3)) none := (Gr.refl _ _).alloc _
  have hE : (w.alloc (.cells #[] 3)).heap[w.heap.size]? = some (.cells #[] 3 (0, 0)) := heap1_0 _ _
  go_enter Try.func56, Try.ntmps56
  go_wp2_with fail
  generalize w.alloc (.cells #[] 3) = w1 at *
  have hC0 : Coll w1 w.heap.size w1.heap.size F 0 (some ⟨w.heap.size, 0, none⟩) 0 0 := Coll.empty hG1.size _ (Nat.le_refl _) hE
  go_loopw [3, 4] (fun v i wr => ∃ (k m cap : Nat) (ao : Option Addr), k ≤ n ∧ i = .int .i64 k ∧ v = .slice ao m cap ∧ Coll wr w.heap.size w1.heap.size F k ao m cap ∧ Gr w1 wr none) (fun _ i _ => n - (intOf i).toNat)
  case atStart => exact ⟨0, 0, 0, _, Nat.zero_le _, rfl, rfl, hC0, Gr.refl _ _⟩
  case round =>
    obtain ⟨k, m, cap, ao, hkl, rfl, rfl, hCo, hgr⟩ := hrel
    have hnk := hCo.le
    have HCo := Lib.hid hCo
    clear hCo hC0
    by_cases hlt : k < n
    · have hck := (hG1.trans0 hgr).cell (HF.out k hlt) (by simp)
      cases hd : F k with
      | true =>
        have HD := Lib.hid hd
        rw [hd] at hck
        clear hd
        go_wp2_with (at_builtin; refine app_c wr _ rfl (.tmp 16) (.tmp 18) rfl w.heap.size w1.heap.size ao cap m _ k rfl HCo.out ((Gr.refl _ _).alloc _) HD.out wr.heap.size 1 rfl (cell_of_row _ _ _ _ _ _ (heap1_0 _ _)) (by omega) hgr.size ?_; rintro g cap' w4 hC4 hg4)
        go_roundw
        case rel => exact ⟨k + 1, m + 1, cap', _, by omega, by go_num, rfl, hC4, hg4 _ (hgr.alloc _) (Nat.le_refl _)⟩
        case measure => simp [intOf]; omega
      | false =>
        have HD := Lib.hid hd
        rw [hd] at hck
        clear hd
        go_wp2_with fail
        go_roundw
        case rel => exact ⟨k + 1, m, cap, ao, by omega, by go_num, rfl, HCo.out.no HD.out, hgr⟩
        case measure => simp [intOf]; omega
    · obtain rfl : k = n := by omega
      go_wp2_with fail
      go_ret
      exact HCo.out.hand rfl (hG1.trans0 hgr)
set_option maxRecDepth 100000 in
set_option maxHeartbeats 4000000 in
theorem specAlwaysSet_any (p : Pr) (a : Int) (at' ab : Option Addr) (ct cb : Nat) (w : World) (hT : InAt w Any p.types at') (hB : SlAt w Any p.body ab) (hs : p.types.length ≤ 1048576) (hc : St.count p.body ≤ 1048576) :
    Calls Try.prog 17 #[.agg #[.slice at' p.types.length ct, .slice ab p.body.length cb], .int .i64 a] w (HandI (alwaysOf p a) w) := by
  have hlc := count_length p.body
  have hg1 : ∀ o, Gr w (w.alloc o) none := fun o => (Gr.refl _ _).alloc _
  by_cases h0 : a < 0
  · have HO := Lib.hid (alwaysOf_out (p := p) (a := a) (by omega))
    go_enter Try.func17, Try.ntmps17
    go_wp2_with fail
    go_ret
    rw [HO.out]
    exact Lst.hand (Lst.empty (base := w.heap.size) (Nat.le_refl _) (by omega) (heap2_1 _ _ _)) rfl ((hg1 _).alloc _)
  have h0' : 0 ≤ a := by omega
  clear h0
  go_enter Try.func17, Try.ntmps17
  go_wp2_with fail
  refine (specPointsOf_any p at' ab ct cb _ (hT.gr0 (hg1 _)) (hB.gr0 (hg1 _)) hs hc).mono ?_
  rintro e w1 ⟨M, am, c, hM, rfl, -, hg⟩
  have hG1 : Gr w w1 none := (hg1 _).trans0 hg
  have q0 : w1.cell? ⟨w.heap.size, 0, none⟩ = some (.slice at' p.types.length ct) := hg.cell (p := ⟨w.heap.size, 0, none⟩) (cell?_new2 _ _).1 (by simp)
  have q1 : w1.cell? ⟨w.heap.size, 1, none⟩ = some (.slice ab p.body.length cb) := hg.cell (p := ⟨w.heap.size, 1, none⟩) (cell?_new2 _ _).2 (by simp)
  have HM := Lib.hid hM
  clear hg hM
  by_cases h1 : (M.length : Int) ≤ a
  · have HO := Lib.hid (alwaysOf_out (p := p) (a := a) (by rw [← HM.out]; omega))
    go_wp2_with fail
    go_ret
    rw [HO.out]
    exact Lst.hand (Lst.empty hG1.size hG1.size (heap1_0 _ _)) rfl (hG1.alloc _)
  · obtain ⟨k, rfl⟩ := Int.eq_ofNat_of_zero_le h0'
    have hk : k < (ptsOf p).length := by rw [← HM.out]; omega
    have hv : validP p = true := valid_posE (by omega)
    have HO := Lib.hid (alwaysOf_in hk)
    have hpp : ptsOf p = pts p := by unfold ptsOf; rw [if_pos hv]
    rw [hpp] at hk
    have hpl := valid_types hv
    have HV := Lib.hid hv
    clear hpp hv
    go_wp2_with fail
    refine (l3Forward_any p true at' ab ct cb _ (hT.gr0 hG1) (hB.gr0 hG1) HV.out).mono ?_
    rintro e w2 ⟨g2, rfl, hTb, hg2⟩
    obtain ⟨gk, ck, t0, hR⟩ := hTb k hk
    have HR := Lib.hid hR
    obtain ⟨n, hn⟩ : ∃ n, (pts p).length = n := ⟨_, rfl⟩
    rw [hn] at hk
    have hG2 := hG1.trans0 hg2
    clear hTb hR
    rw [hn]
    clear hn
    go_wp2_with fail
    refine (l3NumbersE_any gk p.types.length ck ck (fwdB true p k) _ HR.out (by omega)).mono ?_
    rw [show coll (fwdB true p k) p.types.length = alwaysOf p k from (by rw [HO.out]; exact coll_congr fun v hv => by unfold fwdB hasB; rw [if_pos rfl, decide_eq_true hv, Bool.true_and]; rfl)]
    intro e w4 hh
    have hhh := HandI.aft hh hG2
    obtain ⟨a4, c4, rfl, -⟩ := hh
    have HH := Lib.hid hhh
    clear hhh
    go_wp2_with fail
    go_ret
    exact HH.out
set_option maxRecDepth 100000 in
set_option maxHeartbeats 4000000 in
theorem specMaybeSet_any (p : Pr) (a : Int) (at' ab : Option Addr) (ct cb : Nat) (w : World) (hT : InAt w Any p.types at') (hB : SlAt w Any p.body ab) (hs : p.types.length ≤ 1048576) (hc : St.count p.body ≤ 1048576) :
    Calls Try.prog 25 #[.agg #[.slice at' p.types.length ct, .slice ab p.body.length cb], .int .i64 a] w (HandI (maybeOf p a) w) := by
  have hlc := count_length p.body
  have hg1 : ∀ o, Gr w (w.alloc o) none := fun o => (Gr.refl _ _).alloc _
  by_cases h0 : a < 0
  · have HO := Lib.hid (maybeOf_out (p := p) (a := a) (by omega))
    go_enter Try.func25, Try.ntmps25
    go_wp2_with fail
    go_ret
    rw [HO.out]
    exact Lst.hand (Lst.empty (base := w.heap.size) (Nat.le_refl _) (by omega) (heap2_1 _ _ _)) rfl ((hg1 _).alloc _)
  have h0' : 0 ≤ a := by omega
  have hd0 : decide (a < 0) = false := decide_eq_false h0
  go_enter Try.func25, Try.ntmps25
  go_wp2_with fail
  refine (specPointsOf_any p at' ab ct cb _ (hT.gr0 (hg1 _)) (hB.gr0 (hg1 _)) hs hc).mono ?_
  rintro e w1 ⟨M, am, c, hM, rfl, -, hg⟩
  have hG1 : Gr w w1 none := (hg1 _).trans0 hg
  have q0 : w1.cell? ⟨w.heap.size, 0, none⟩ = some (.slice at' p.types.length ct) := hg.cell (p := ⟨w.heap.size, 0, none⟩) (cell?_new2 _ _).1 (by simp)
  have q1 : w1.cell? ⟨w.heap.size, 1, none⟩ = some (.slice ab p.body.length cb) := hg.cell (p := ⟨w.heap.size, 1, none⟩) (cell?_new2 _ _).2 (by simp)
  have HM := Lib.hid hM
  clear hg hM
  by_cases h1 : (M.length : Int) ≤ a
  · have HO := Lib.hid (maybeOf_out (p := p) (a := a) (by rw [← HM.out]; omega))
    go_wp2_with fail
    go_ret
    rw [HO.out]
    exact Lst.hand (Lst.empty hG1.size hG1.size (heap1_0 _ _)) rfl (hG1.alloc _)
  · obtain ⟨k, rfl⟩ := Int.eq_ofNat_of_zero_le h0'
    have hk : k < (ptsOf p).length := by rw [← HM.out]; omega
    have hv : validP p = true := valid_posE (by omega)
    have HO := Lib.hid (maybeOf_in hk)
    have hpp : ptsOf p = pts p := by unfold ptsOf; rw [if_pos hv]
    rw [hpp] at hk
    have hpl := valid_types hv
    have HV := Lib.hid hv
    clear hpp hv
    go_wp2_with fail
    refine (l3Forward_any p false at' ab ct cb _ (hT.gr0 hG1) (hB.gr0 hG1) HV.out).mono ?_
    rintro e w2 ⟨g2, rfl, hTb, hg2⟩
    obtain ⟨gk, ck, t0, hR⟩ := hTb k hk
    have HR := Lib.hid hR
    obtain ⟨n, hn⟩ : ∃ n, (pts p).length = n := ⟨_, rfl⟩
    rw [hn] at hk
    have hG2 := hG1.trans0 hg2
    clear hTb hR
    rw [hn]
    clear hn
    go_wp2_with fail
    refine (l3NumbersE_any gk p.types.length ck ck (fwdB false p k) _ HR.out (by omega)).mono ?_
    rw [show coll (fwdB false p k) p.types.length = maybeOf p k from (by rw [HO.out]; exact coll_congr fun v hv => by unfold fwdB; rw [if_neg (by simp)])]
    intro e w4 hh
    have hhh := HandI.aft hh hG2
    obtain ⟨a4, c4, rfl, -⟩ := hh
    have HH := Lib.hid hhh
    clear hhh
    go_wp2_with fail
    go_ret
    exact HH.out
/-- Does a point use what its row lacks? -/
def unsR (T : List Int) (op x y : Int) (F : Nat → Bool) : Bool := (List.range T.length).any fun v => usesB T op x y v && !F v
theorem unsR_take (T : List Int) (op x y : Int) (F : Nat → Bool) {k : Nat} (h : ∀ v, v < k → (usesB T op x y v && !F v) = false) (hk : T.length ≤ k) : unsR T op x y F = false := by
  unfold unsR
  rw [List.any_eq_false]
  intro v hv
  have := List.mem_range.1 hv
  rw [h v (by omega)]; simp
set_option maxRecDepth 100000 in
set_option maxHeartbeats 2000000 in
theorem l3Unset_any (T : List Int) (at' : Option Addr) (ct : Nat) (op x y n : Int) (nv : Value) (gs cs : Nat) (F : Nat → Bool) (w : World) (hT : InAt w Any T at') (hT6 : T.length ≤ 6) (hF : RowE w gs T.length cs F) :
    Calls Try.prog 65 #[.slice at' T.length ct, .agg #[.int .i64 op, .int .i64 x, .int .i64 y, .int .i64 n, nv], .slice (some ⟨gs, 0, none⟩) T.length cs] w fun e w' => e = .returned (.bool (unsR T op x y F)) ∧ Gr w w' none := by
  have HTY := Lib.hid hT
  have HF := Lib.hid hF
  have hE1 := heap1_0 w (.cells #[.int .i64 op, .int .i64 x, .int .i64 y, .int .i64 n, nv] 67)
  have hgA : Gr w (w.alloc (.cells #[.int .i64 op, .int .i64 x, .int .i64 y, .int .i64 n, nv] 67)) none := (Gr.refl _ _).alloc _
  obtain ⟨wA, hwA⟩ : ∃ wA, wA = w.alloc (.cells #[.int .i64 op, .int .i64 x, .int .i64 y, .int .i64 n, nv] 67) := ⟨_, rfl⟩
  go_enter Try.func65, Try.ntmps65
  go_wp2_with fail
  rw [← hwA] at hE1 hgA ⊢
  have HE := Lib.hid hE1
  have HGA := Lib.hid hgA
  clear hwA hE1 hgA hT hF
  go_loopw [7] (fun s wr => ∃ k : Nat, k ≤ T.length ∧ s = .int .i64 k ∧ (∀ v, v < k → (usesB T op x y v && !F v) = false) ∧ Gr wA wr none) (fun s _ => T.length - (intOf s).toNat)
  case atStart => exact ⟨0, Nat.zero_le _, rfl, (fun v hv => absurd hv (by omega)), Gr.refl _ _⟩
  case round =>
    obtain ⟨k, hk, rfl, hall, hg⟩ := hrel
    have HA := Lib.hid hall
    have HG := Lib.hid (HGA.out.trans0 hg)
    have HGK := Lib.hid hg
    have x0 : wr.cell? ⟨w.heap.size, 0, none⟩ = some (.int .i64 op) := hg.cell (p := ⟨w.heap.size, 0, none⟩) (cell_of_row _ _ _ _ _ _ HE.out) (by simp)
    have x1 : wr.cell? ⟨w.heap.size, 1, none⟩ = some (.int .i64 x) := hg.cell (p := ⟨w.heap.size, 1, none⟩) (cell_of_row _ _ _ _ _ _ HE.out) (by simp)
    have x2 : wr.cell? ⟨w.heap.size, 2, none⟩ = some (.int .i64 y) := hg.cell (p := ⟨w.heap.size, 2, none⟩) (cell_of_row _ _ _ _ _ _ HE.out) (by simp)
    have x3 : wr.cell? ⟨w.heap.size, 3, none⟩ = some (.int .i64 n) := hg.cell (p := ⟨w.heap.size, 3, none⟩) (cell_of_row _ _ _ _ _ _ HE.out) (by simp)
    have x4 : wr.cell? ⟨w.heap.size, 4, none⟩ = some nv := hg.cell (p := ⟨w.heap.size, 4, none⟩) (cell_of_row _ _ _ _ _ _ HE.out) (by simp)
    clear hall hg
    by_cases hlt : k < T.length
    · have c0 := (HF.out.gr0 HG.out).cell hlt
      obtain ⟨UU, hUU⟩ : ∃ UU, useK T[k] op x y k = UU := ⟨_, rfl⟩
      have hub := use_ne (op := op) (x := x) (y := y) hlt
      rw [hUU] at hub
      have HUU := Lib.hid hUU
      obtain ⟨ub, hubb⟩ : ∃ ub, usesB T op x y k = ub := ⟨_, rfl⟩
      rw [hubb] at hub
      have HUB := Lib.hid hubb
      obtain ⟨fb, hfb⟩ : ∃ fb, F k = fb := ⟨_, rfl⟩
      rw [hfb] at c0
      have HFB := Lib.hid hfb
      clear hUU hubb hfb
      go_wp2_with fail
      refine (l3Use_any T at' ct op x y n nv k hlt _ (HTY.out.gr0 HG.out) (by omega)).mono ?_
      rw [HUU.out]
      rintro e w3 ⟨rfl, hg3⟩
      replace c0 := hg3.cell c0 (by simp)
      have HG3 := Lib.hid (HG.out.trans0 hg3)
      have HGK3 := Lib.hid (HGK.out.trans0 hg3)
      clear x0 x1 x2 x3 x4 hg3
      cases ub with
      | false =>
        have HN := Lib.hid (show ∀ v, v < k + 1 → (usesB T op x y v && !F v) = false from fun v hv => by
          by_cases e : v = k
          · subst e; rw [HUB.out]; rfl
          · exact HA.out v (by omega))
        go_wp2_with fail
        go_roundw
        case rel => exact ⟨k + 1, by omega, by go_num, HN.out, HGK3.out⟩
        case measure => simp [intOf]; omega
      | true =>
        cases fb with
        | true =>
          have HN := Lib.hid (show ∀ v, v < k + 1 → (usesB T op x y v && !F v) = false from fun v hv => by
            by_cases e : v = k
            · subst e; rw [HFB.out, Bool.not_true, Bool.and_false]
            · exact HA.out v (by omega))
          go_wp2_with fail
          go_roundw
          case rel => exact ⟨k + 1, by omega, by go_num, HN.out, HGK3.out⟩
          case measure => simp [intOf]; omega
        | false =>
          have HT2 := Lib.hid (show unsR T op x y F = true by
            unfold unsR
            rw [List.any_eq_true]
            exact ⟨k, List.mem_range.2 hlt, by rw [HUB.out, HFB.out]; rfl⟩)
          go_wp2_with fail
          go_ret
          exact ⟨ret_bool HT2.out.symm, HG3.out⟩
    · have HT2 := Lib.hid (unsR_take T op x y F HA.out (by omega))
      go_wp2_with fail
      go_ret
      exact ⟨ret_bool HT2.out.symm, HG.out⟩
theorem uns_lack {p : Pr} {g : Nat → Bool} {i : Nat} {q : Pt} (hq : ptAt (pts p) i = q) {F : Nat → Bool} (hF : ∀ v, v < p.types.length → F v = !unB p g i v) : unsR p.types q.op q.x q.y F = lackB p g i := by
  unfold unsR lackB
  rw [Bool.eq_iff_iff, List.any_eq_true, List.any_eq_true]
  constructor
  · rintro ⟨v, hv, h⟩
    refine ⟨v, hv, ?_⟩
    rw [hF v (List.mem_range.1 hv), Bool.not_not] at h
    unfold usL; rw [hq]; exact h
  · rintro ⟨v, hv, h⟩
    refine ⟨v, hv, ?_⟩
    rw [hF v (List.mem_range.1 hv), Bool.not_not]
    unfold usL at h; rw [hq] at h; exact h
set_option maxRecDepth 100000 in
set_option maxHeartbeats 4000000 in
theorem specUnsetUses_any (p : Pr) (at' ab : Option Addr) (ct cb : Nat) (w : World) (hT : InAt w Any p.types at') (hB : SlAt w Any p.body ab) (hs : p.types.length ≤ 1048576) (hc : St.count p.body ≤ 1048576) :
    Calls Try.prog 29 #[.agg #[.slice at' p.types.length ct, .slice ab p.body.length cb]] w (HandI (unsetOf p) w) := by
  have hlc := count_length p.body
  have hg1 : ∀ o o', Gr w ((w.alloc o).alloc o') none := fun o o' => ((Gr.refl _ _).alloc _).alloc _
  have HT := Lib.hid hT
  go_enter Try.func29, Try.ntmps29
  go_wp2_with fail
  refine (specPointsOf_any p at' ab ct cb _ (hT.gr0 (hg1 _ _)) (hB.gr0 (hg1 _ _)) hs hc).mono ?_
  rintro e w1 ⟨M, am, c, hM, rfl, hown, hg⟩
  have hG1 : Gr w w1 none := (hg1 _ _).trans0 hg
  have q0 : w1.cell? ⟨w.heap.size, 0, none⟩ = some (.slice at' p.types.length ct) := hg.cell (p := ⟨w.heap.size, 0, none⟩) (cell_of_row _ _ _ _ _ _ (heap2_0 _ _ _)) (by simp)
  have q1 : w1.cell? ⟨w.heap.size, 1, none⟩ = some (.slice ab p.body.length cb) := hg.cell (p := ⟨w.heap.size, 1, none⟩) (cell_of_row _ _ _ _ _ _ (heap2_0 _ _ _)) (by simp)
  have hE : w1.heap[w.heap.size + 1]? = some (.cells #[] 3 (0, 0)) := (hg.block _ (by simp) (by simp)).trans (heap2_1 _ _ _)
  have HM := Lib.hid hM
  have HR := Lib.hid hown.read
  clear hg hM hown
  cases hv : validP p with
  | false =>
    have HO := Lib.hid (unsetOf_out hv)
    have hm0 : M.length = 0 := by rw [HM.out]; unfold ptsOf; rw [hv]; rfl
    clear hv
    go_wp2_with fail
    go_ret
    rw [HO.out]
    exact Lst.hand (Lst.empty (Nat.le_refl _) (by omega) hE) rfl hG1
  | true =>
    have hpl := valid_types hv
    have hpp : ptsOf p = pts p := by unfold ptsOf; rw [if_pos hv]
    rw [hpp] at HM
    have hml : M.length ≤ 61 := by rw [HM.out]; exact pts_len hv
    have hpos : 0 < M.length := by rw [HM.out]; exact pts_pos' p
    have HO := Lib.hid (show unsetOf p = coll (lackB p noneG) M.length by rw [unsetOf_in hv, HM.out])
    have HV := Lib.hid hv
    obtain ⟨m, hm⟩ : ∃ m, M.length = m := ⟨_, rfl⟩
    have HMM := Lib.hid hm
    rw [hm] at hml hpos HO ⊢
    clear hv hpp hm
    go_wp2_with fail
    refine (l3Forward_any p true at' ab ct cb _ (HT.out.gr0 hG1) (hB.gr0 hG1) HV.out).mono ?_
    rintro e w2 ⟨g2, rfl, hTb, hg2⟩
    have hG2 : Gr w w2 none := hG1.trans0 hg2
    rw [← HM.out, HMM.out] at hTb ⊢
    have HTB := Lib.hid hTb
    have q0' := hg2.cell q0 (by simp)
    have hE2 : w2.heap[w.heap.size + 1]? = some (.cells #[] 3 (0, 0)) := by rw [hg2.block _ (lt_of_block hE) (by simp)]; exact hE
    have hC0 : Coll w2 w.heap.size w2.heap.size (lackB p noneG) 0 (some ⟨w.heap.size + 1, 0, none⟩) 0 0 := Coll.empty hG2.size _ (by omega) hE2
    have HR2 := Lib.hid (HR.out.gr hg2)
    have HG2 := Lib.hid hG2
    have HQ0 := Lib.hid q0'
    clear hTb hg2 hG2 hE hE2 q0 q1 q0' HR
    go_wp2_with fail
    go_loopw [3, 6] (fun v i wr => ∃ (k n cap : Nat) (ao : Option Addr), k ≤ m ∧ i = .int .i64 k ∧ v = .slice ao n cap ∧ Coll wr w.heap.size w2.heap.size (lackB p noneG) k ao n cap ∧ Gr w2 wr none) (fun _ i _ => m - (intOf i).toNat)
    case atStart => exact ⟨0, 0, 0, _, Nat.zero_le _, rfl, rfl, hC0, Gr.refl _ _⟩
    case round =>
      obtain ⟨k, n, cap, ao, hkl, rfl, rfl, hCo, hgr⟩ := hrel
      have hnk := hCo.le
      have HC := Lib.hid hCo
      have HGR := Lib.hid hgr
      clear hCo hC0
      by_cases hlt : k < m
      · have hkM : k < M.length := by rw [HMM.out]; exact hlt
        obtain ⟨b, po, rfl, an, cn, d0, d1, d2, d3, d4, -, -⟩ := (HR2.out.gr hgr) k hkM
        obtain ⟨q, eq⟩ : ∃ q, M[k] = q := ⟨_, rfl⟩
        rw [eq] at d0 d1 d2 d3 d4
        obtain ⟨nn, hnn⟩ : ∃ nn, q.next.length = nn := ⟨_, rfl⟩
        rw [hnn] at d4
        have hpa : ptAt (pts p) k = q := by rw [← HM.out]; exact (ptAt_get hkM).trans eq
        obtain ⟨bk, ck, t0, hR⟩ := HTB.out k hlt
        replace t0 := hgr.cell t0 (by simp)
        have q0 := hgr.cell HQ0.out (by simp)
        have HRK := Lib.hid (hR.gr0 hgr)
        have HUL := Lib.hid (show unsR p.types q.op q.x q.y (fwdB true p k) = lackB p noneG k from uns_lack hpa (fun v _ => by unfold fwdB; rw [if_pos rfl]; rfl))
        obtain ⟨lb, hlb⟩ : ∃ lb, lackB p noneG k = lb := ⟨_, rfl⟩
        have HLB := Lib.hid hlb
        clear eq hnn hpa hR hlb hgr
        go_upto_region 9 with fail
        go_cut [32] (fun s wx => s = .bool lb ∧ Gr wr wx none)
        case first =>
--<RA
          refine wp_region_held_drew (S := fun w' => Gr wr w' none) (by kernel_rfl) ((Gr.refl _ _).drew) (fun hHeld => ?_)
          refine wpAnyH_take (i := 0) (v := ?_) rfl (by kernel_rfl) (by kernel_rfl) (by kernel_rfl) (fun _ _ _ h => h) (Or.inl ⟨by rfl, ?_⟩) hHeld ?_
          rotate_left
          focus (intro wq hq; clear hq; go_simp; try with_reducible rfl)
          simp only [Act.put, List.getElem_toArray, List.getElem_cons_zero, List.setIfInBounds_toArray, List.set_cons_zero, List.set_cons_succ]
          refine wpAnyH_take (i := 1) (v := ?_) rfl (by kernel_rfl) (by kernel_rfl) (by kernel_rfl) (fun _ _ _ h => h) (Or.inl ⟨by rfl, ?_⟩) hHeld ?_
          rotate_left
          focus (intro wq hq; have k0 := hq.cell q0 (by simp); go_simp; try with_reducible rfl)
          simp only [Act.put, List.getElem_toArray, List.getElem_cons_succ, List.getElem_cons_zero, List.setIfInBounds_toArray, List.set_cons_zero, List.set_cons_succ]
          refine wpAnyH_take (i := 2) (v := ?_) rfl (by kernel_rfl) (by kernel_rfl) (by kernel_rfl) (fun _ _ _ h => h) (Or.inl ⟨by rfl, ?_⟩) hHeld ?_
          rotate_left
          focus (intro wq hq; clear hq; go_simp; try with_reducible rfl)
          simp only [Act.put, List.getElem_toArray, List.getElem_cons_succ, List.getElem_cons_zero, List.setIfInBounds_toArray, List.set_cons_zero, List.set_cons_succ]
          refine wpAnyH_take (i := 3) (v := ?_) rfl (by kernel_rfl) (by kernel_rfl) (by kernel_rfl) (fun _ _ _ h => h) (Or.inl ⟨by rfl, ?_⟩) hHeld ?_
          rotate_left
          focus (intro wq hq; clear hq; go_simp; try with_reducible rfl)
          simp only [Act.put, List.getElem_toArray, List.getElem_cons_succ, List.getElem_cons_zero, List.setIfInBounds_toArray, List.set_cons_zero, List.set_cons_succ]
          refine wpAnyH_take (i := 4) (v := ?_) rfl (by kernel_rfl) (by kernel_rfl) (by kernel_rfl) (fun _ _ _ h => h) (Or.inl ⟨by rfl, ?_⟩) hHeld ?_
          rotate_left
          focus (intro wq hq; clear hq; go_simp; try with_reducible rfl)
          simp only [Act.put, List.getElem_toArray, List.getElem_cons_succ, List.getElem_cons_zero, List.setIfInBounds_toArray, List.set_cons_zero, List.set_cons_succ]
          refine wpAnyH_take (i := 5) (v := ?_) rfl (by kernel_rfl) (by kernel_rfl) (by kernel_rfl) (fun _ _ _ h => h) (Or.inl ⟨by rfl, ?_⟩) hHeld ?_
          rotate_left
          focus (intro wq hq; have k0 := hq.cell d0 (by simp); have k1 := hq.cell d1 (by simp); have k2 := hq.cell d2 (by simp); have k3 := hq.cell d3 (by simp); have k4 := hq.cell d4 (by simp); go_simp; try with_reducible rfl)
          simp only [Act.put, List.getElem_toArray, List.getElem_cons_succ, List.getElem_cons_zero, List.setIfInBounds_toArray, List.set_cons_zero, List.set_cons_succ]
          refine wpAnyH_take (i := 6) (v := ?_) rfl (by kernel_rfl) (by kernel_rfl) (by kernel_rfl) (fun _ _ _ h => h) (Or.inl ⟨by rfl, ?_⟩) hHeld ?_
          rotate_left
          focus (intro wq hq; clear hq; go_simp; try with_reducible rfl)
          simp only [Act.put, List.getElem_toArray, List.getElem_cons_succ, List.getElem_cons_zero, List.setIfInBounds_toArray, List.set_cons_zero, List.set_cons_succ]
          refine wpAnyH_take (i := 7) (v := ?_) rfl (by kernel_rfl) (by kernel_rfl) (by kernel_rfl) (fun _ _ _ h => h) (Or.inl ⟨by rfl, ?_⟩) hHeld ?_
          rotate_left
          focus (intro wq hq; clear hq; go_simp; try with_reducible rfl)
          simp only [Act.put, List.getElem_toArray, List.getElem_cons_succ, List.getElem_cons_zero, List.setIfInBounds_toArray, List.set_cons_zero, List.set_cons_succ]
          refine wpAnyH_take (i := 8) (v := ?_) rfl (by kernel_rfl) (by kernel_rfl) (by kernel_rfl) (fun _ _ _ h => h) (Or.inl ⟨by rfl, ?_⟩) hHeld ?_
          rotate_left
          focus (intro wq hq; clear hq; go_simp; try with_reducible rfl)
          simp only [Act.put, List.getElem_toArray, List.getElem_cons_succ, List.getElem_cons_zero, List.setIfInBounds_toArray, List.set_cons_zero, List.set_cons_succ]
          refine wpAnyH_take (i := 9) (v := ?_) rfl (by kernel_rfl) (by kernel_rfl) (by kernel_rfl) (fun _ _ _ h => h) (Or.inl ⟨by rfl, ?_⟩) hHeld ?_
          rotate_left
          focus (intro wq hq; have k0 := hq.cell t0 (by simp); go_simp; try with_reducible rfl)
          simp only [Act.put, List.getElem_toArray, List.getElem_cons_succ, List.getElem_cons_zero, List.setIfInBounds_toArray, List.set_cons_zero, List.set_cons_succ]
          refine wpAnyH_ready (rs := [10]) (by kernel_rfl) (by simp) ?_
          refine AllReadyH.cons rfl (fun K hK => ?_) AllReadyH.nil
          go_simp
          refine (l3Unset_any p.types at' ct q.op q.x q.y q.n (.slice an nn cn) bk ck (fwdB true p k) _ (HT.out.gr0 ((HG2.out.trans0 HGR.out).trans0 hHeld)) hpl (HRK.out.gr0 hHeld)).mono ?_
          rw [HUL.out, HLB.out]
          rintro e w5 ⟨rfl, hg5⟩
          try dsimp only
          refine hK.out _ _ (hHeld.trans0 hg5) (fun hHeld => ?_)
          clear hK K
          try simp only [Act.put, List.getElem_toArray, List.getElem_cons_succ, List.getElem_cons_zero, List.setIfInBounds_toArray, List.set_cons_zero, List.set_cons_succ]
          refine wpAnyH_done (by kernel_rfl) ?_ _
          go_wp2_with fail
          go_meet
          exact ⟨rfl, hHeld⟩
--RA>
        case rest =>
          rename World => wx
          obtain ⟨rfl, hgx⟩ := hcut
          have HC2 := Lib.hid (HC.out.gr hgx)
          have HG3 := Lib.hid (HGR.out.trans0 hgx)
          clear hgx d0 d1 d2 d3 d4 t0 q0
          cases lb with
          | true =>
            go_wp2_with (at_builtin; refine app_c wx _ rfl (.tmp 33) (.tmp 35) rfl w.heap.size w2.heap.size ao cap n _ k rfl HC2.out ((Gr.refl _ _).alloc _) HLB.out wx.heap.size 1 rfl (cell_of_row _ _ _ _ _ _ (heap1_0 _ _)) (by omega) HG3.out.size ?_; rintro g cap' w4 hC4 hg4)
            go_roundw
            case rel => exact ⟨k + 1, n + 1, cap', _, by omega, by go_num, rfl, hC4, hg4 _ (HG3.out.alloc _) (Nat.le_refl _)⟩
            case measure => simp [intOf]; omega
          | false =>
            go_wp2_with fail
            go_roundw
            case rel => exact ⟨k + 1, n, cap, ao, by omega, by go_num, rfl, HC2.out.no HLB.out, HG3.out⟩
            case measure => simp [intOf]; omega
      · obtain rfl : k = m := by omega
        go_wp2_with fail
        go_ret
        exact HC.out.hand HO.out (HG2.out.trans0 hgr)
end Go.Proofs.Ytadlnjglpigjmaa

/- The accesses of a point: walks of accesses and AccessesOf of the program, and of l4Accesses and AccessesOf of the reference. -/
import Derived.Test.YtadlnjglpigjmaaEI

import Derived.Test.YtadlnjglpigjmaaMA

import Derived.Deep.DeepCutAuto

import Derived.Deep.CutBlock

namespace Go.Proofs.Ytadlnjglpigjmaa

open Go.RowKit

theorem ACinfo : (Try.prog.info? 100).map (fun i => (i.zero, i.size, i.bytes)) = some (some (.agg #[.int .i64 0, .bool false]), 2, 16) := by kernel_rfl
def acR (v : Int) (b : Bool) : List Value := [.int .i64 v, .bool b]
theorem acR_one (v : Int) (b : Bool) : ∀ u ∈ acR v b, u.oneCell' = true := by
  intro u hu
  simp [acR] at hu
  rcases hu with rfl | rfl <;> rfl
def acc1 (T : List Int) (op x y : Int) : List (List Value) :=
  if op = 4 ∨ op = 6 then [acR y false] else if op = 5 then [acR y true] else if op = 7 ∨ op = 8 then [acR x true] else if op = 3 ∧ (T.getD y.toNat 0 = 2 ∨ T.getD y.toNat 0 = 4) then [acR y true] else []
def acc2 (T : List Int) (op x : Int) (mb : Nat → Bool) : List (List Value) :=
  if 0 ≤ setOf op x ∧ T.getD (setOf op x).toNat 0 = 2 ∧ mb (setOf op x).toNat = true then [acR (setOf op x) true] else []
theorem acc1_len (T : List Int) (op x y : Int) : (acc1 T op x y).length ≤ 1 := by
  unfold acc1
  (repeat' split) <;> simp
set_option maxRecDepth 100000 in
set_option maxHeartbeats 4000000 in
theorem accesses_any (p : Pr) (gb S : Nat) (op x y n : Int) (nv : Value) (w : World) (hGA : GraphAt w p gb) (hp : p.types.length ≤ 6) (hS : S < 2 ^ 6) (hy : op = 3 → ∃ j : Nat, y = j ∧ j < p.types.length) (hx : setOf op x < p.types.length) :
    Calls Try.prog 88 #[.pointer (some ⟨gb, 0, none⟩), .agg #[.int .i64 op, .int .i64 x, .int .i64 y, .int .i64 n, nv], .int .i64 S] w (HandR 2 (acc1 p.types op x y ++ acc2 p.types op x S.testBit) w) := by
  have HGP := Lib.hid hGA
  have HY := Lib.hid hy
  have hE := heap1_0 w (.cells #[.int .i64 op, .int .i64 x, .int .i64 y, .int .i64 n, nv] 67)
  have hgA : Gr w (w.alloc (.cells #[.int .i64 op, .int .i64 x, .int .i64 y, .int .i64 n, nv] 67)) none := (Gr.refl _ _).alloc _
  obtain ⟨wA, hwA⟩ : ∃ wA, wA = w.alloc (.cells #[.int .i64 op, .int .i64 x, .int .i64 y, .int .i64 n, nv] 67) := ⟨_, rfl⟩
  clear hGA hy
  go_enter Try.func88, Try.ntmps88
  go_upto_region 1 with fail
  rw [← hwA] at hE hgA ⊢
  have HE := Lib.hid hE
  have HGA := Lib.hid hgA
  go_cut [7] (fun v wx => ∃ (n0 c0 : Nat) (a0 : Option Addr), v = .slice a0 n0 c0 ∧ n0 = 0 ∧ LstR 100 2 wA w.heap.size wA.heap.size [] a0 n0 c0 ∧ wA = wx)
  case first =>
    have HL0 := Lib.hid (show LstR 100 2 wA w.heap.size wA.heap.size [] none 0 0 from LstR.nil _ _ _ hgA.size)
    go_wp2_with fail
    go_meet
    exact ⟨0, 0, none, rfl, rfl, HL0.out, rfl⟩
  case rest =>
  obtain ⟨n0, c0, a0, rfl, hn0, hL0, rfl⟩ := hcut
  have HL0 := Lib.hid hL0
  have HN0 := Lib.hid hn0
  have hn1 : n0 ≤ 5 := by omega
  have x0 : wA.cell? ⟨w.heap.size, 0, none⟩ = some (.int .i64 op) := cell_of_row _ _ _ _ _ _ hE
  have x1 : wA.cell? ⟨w.heap.size, 1, none⟩ = some (.int .i64 x) := cell_of_row _ _ _ _ _ _ hE
  have x2 : wA.cell? ⟨w.heap.size, 2, none⟩ = some (.int .i64 y) := cell_of_row _ _ _ _ _ _ hE
  clear hwA hE hgA hL0 hn0
  go_upto_block 0 with fail

  go_cut [7] (fun v wx => ∃ (m cap : Nat) (ao : Option Addr), v = .slice ao m cap ∧ LstR 100 2 wx w.heap.size wA.heap.size (acc1 p.types op x y) ao m cap ∧ Gr wA wx none)
  case first =>
    by_cases h4 : op = 4
    · subst h4
      have HA := Lib.hid (show acc1 p.types 4 x y = [acR y false] by unfold acc1; simp)
      go_wp2_with (at_builtin; refine app_r wA _ rfl (.tmp 14) (.tmp 18) 46 rfl 100 2 16 _ Try.underlying46 ACinfo rfl (by decide) (by decide) w.heap.size wA.heap.size a0 c0 n0 [] (acR y false) rfl HL0.out ((Gr.refl _ _).alloc _) wA.heap.size 1 rfl _ (heap1_0 _ _) rfl rfl (acR_one _ _) (by omega) (Nat.le_refl _) ?_; rintro g cap' w4 hC4 hg4 -)
      go_meet
      exact ⟨n0 + 1, cap', _, rfl, by rw [HA.out]; exact hC4, hg4 _ ((Gr.refl _ _).alloc _) (Nat.le_refl _)⟩
    by_cases h6 : op = 6
    · subst h6
      have HA := Lib.hid (show acc1 p.types 6 x y = [acR y false] by unfold acc1; simp)
      go_wp2_with (at_builtin; refine app_r wA _ rfl (.tmp 14) (.tmp 18) 46 rfl 100 2 16 _ Try.underlying46 ACinfo rfl (by decide) (by decide) w.heap.size wA.heap.size a0 c0 n0 [] (acR y false) rfl HL0.out ((Gr.refl _ _).alloc _) wA.heap.size 1 rfl _ (heap1_0 _ _) rfl rfl (acR_one _ _) (by omega) (Nat.le_refl _) ?_; rintro g cap' w4 hC4 hg4 -)
      go_meet
      exact ⟨n0 + 1, cap', _, rfl, by rw [HA.out]; exact hC4, hg4 _ ((Gr.refl _ _).alloc _) (Nat.le_refl _)⟩
    by_cases h5 : op = 5
    · subst h5
      have HA := Lib.hid (show acc1 p.types 5 x y = [acR y true] by unfold acc1; simp)
      go_wp2_with (at_builtin; refine app_r wA _ rfl (.tmp 22) (.tmp 26) 46 rfl 100 2 16 _ Try.underlying46 ACinfo rfl (by decide) (by decide) w.heap.size wA.heap.size a0 c0 n0 [] (acR y true) rfl HL0.out ((Gr.refl _ _).alloc _) wA.heap.size 1 rfl _ (heap1_0 _ _) rfl rfl (acR_one _ _) (by omega) (Nat.le_refl _) ?_; rintro g cap' w4 hC4 hg4 -)
      go_meet
      exact ⟨n0 + 1, cap', _, rfl, by rw [HA.out]; exact hC4, hg4 _ ((Gr.refl _ _).alloc _) (Nat.le_refl _)⟩
    by_cases h7 : op = 7
    · subst h7
      have HA := Lib.hid (show acc1 p.types 7 x y = [acR x true] by unfold acc1; simp)
      go_wp2_with (at_builtin; refine app_r wA _ rfl (.tmp 31) (.tmp 35) 46 rfl 100 2 16 _ Try.underlying46 ACinfo rfl (by decide) (by decide) w.heap.size wA.heap.size a0 c0 n0 [] (acR x true) rfl HL0.out ((Gr.refl _ _).alloc _) wA.heap.size 1 rfl _ (heap1_0 _ _) rfl rfl (acR_one _ _) (by omega) (Nat.le_refl _) ?_; rintro g cap' w4 hC4 hg4 -)
      go_meet
      exact ⟨n0 + 1, cap', _, rfl, by rw [HA.out]; exact hC4, hg4 _ ((Gr.refl _ _).alloc _) (Nat.le_refl _)⟩
    by_cases h8 : op = 8
    · subst h8
      have HA := Lib.hid (show acc1 p.types 8 x y = [acR x true] by unfold acc1; simp)
      go_wp2_with (at_builtin; refine app_r wA _ rfl (.tmp 31) (.tmp 35) 46 rfl 100 2 16 _ Try.underlying46 ACinfo rfl (by decide) (by decide) w.heap.size wA.heap.size a0 c0 n0 [] (acR x true) rfl HL0.out ((Gr.refl _ _).alloc _) wA.heap.size 1 rfl _ (heap1_0 _ _) rfl rfl (acR_one _ _) (by omega) (Nat.le_refl _) ?_; rintro g cap' w4 hC4 hg4 -)
      go_meet
      exact ⟨n0 + 1, cap', _, rfl, by rw [HA.out]; exact hC4, hg4 _ ((Gr.refl _ _).alloc _) (Nat.le_refl _)⟩
    have e4 : (op == 4) = false := beq_eq_false_iff_ne.2 h4
    have e5 : (op == 5) = false := beq_eq_false_iff_ne.2 h5
    have e6 : (op == 6) = false := beq_eq_false_iff_ne.2 h6
    have e7 : (op == 7) = false := beq_eq_false_iff_ne.2 h7
    have e8 : (op == 8) = false := beq_eq_false_iff_ne.2 h8
    by_cases h3 : op = 3
    · subst h3
      obtain ⟨j, rfl, hj⟩ := HY.out rfl
      obtain ⟨t, ht⟩ : ∃ t, p.types[j] = t := ⟨_, rfl⟩
      have HTG := Lib.hid (show p.types.getD j 0 = t by simp [List.getD, hj, ht])
      have ha := takes_any p gb j hj _ (HGP.out.gr HGA.out) (by omega)
      rw [ht] at ha
      have HTK := Lib.hid ha
      clear ha ht
      by_cases h24 : t = 2 ∨ t = 4
      · have hb : (t == 2 || t == 4) = true := by simp [h24]
        have HA := Lib.hid (show acc1 p.types 3 x (j : Int) = [acR (j : Int) true] by unfold acc1; rw [show ((j : Nat) : Int).toNat = j from rfl, HTG.out]; simp [h24])
        go_wp2_with fail
        refine HTK.out.mono ?_
        rw [hb]
        rintro e w2 ⟨rfl, rfl⟩
        go_wp2_with (at_builtin; refine app_r wA _ rfl (.tmp 43) (.tmp 47) 46 rfl 100 2 16 _ Try.underlying46 ACinfo rfl (by decide) (by decide) w.heap.size wA.heap.size a0 c0 n0 [] (acR (j : Int) true) rfl HL0.out ((Gr.refl _ _).alloc _) wA.heap.size 1 rfl _ (heap1_0 _ _) rfl rfl (acR_one _ _) (by omega) (Nat.le_refl _) ?_; rintro g cap' w4 hC4 hg4 -)
        go_meet
        exact ⟨n0 + 1, cap', _, rfl, by rw [HA.out]; exact hC4, hg4 _ ((Gr.refl _ _).alloc _) (Nat.le_refl _)⟩
      · have hb : (t == 2 || t == 4) = false := by simp; omega
        have HA := Lib.hid (show acc1 p.types 3 x (j : Int) = [] by unfold acc1; rw [show ((j : Nat) : Int).toNat = j from rfl, HTG.out]; simp [h24])
        go_wp2_with fail
        refine HTK.out.mono ?_
        rw [hb]
        rintro e w2 ⟨rfl, rfl⟩
        go_wp2_with fail
        go_meet
        exact ⟨n0, c0, _, rfl, by rw [HA.out]; exact HL0.out, Gr.refl _ _⟩
    · have e3 : (op == 3) = false := beq_eq_false_iff_ne.2 h3
      have HA := Lib.hid (show acc1 p.types op x y = [] by unfold acc1; simp [h3, h4, h5, h6, h7, h8])
      clear h3 h4 h5 h6 h7 h8
      go_wp2_with fail
      go_meet
      exact ⟨n0, c0, _, rfl, by rw [HA.out]; exact HL0.out, Gr.refl _ _⟩
  case rest =>
    rename World => wx
    obtain ⟨m, cap, ao, rfl, hL, hgx⟩ := hcut
    have HL := Lib.hid hL
    have hm1 : m ≤ 1 := by have := acc1_len p.types op x y; have := hL.1; omega
    have HGX := Lib.hid hgx
    have x3 : wx.cell? ⟨w.heap.size, 3, none⟩ = some (.int .i64 n) := hgx.cell (p := ⟨w.heap.size, 3, none⟩) (cell_of_row _ _ _ _ _ _ HE.out) (by simp)
    have x4 : wx.cell? ⟨w.heap.size, 4, none⟩ = some nv := hgx.cell (p := ⟨w.heap.size, 4, none⟩) (cell_of_row _ _ _ _ _ _ HE.out) (by simp)
    replace x0 := hgx.cell x0 (by simp)
    replace x1 := hgx.cell x1 (by simp)
    replace x2 := hgx.cell x2 (by simp)
    obtain ⟨sx, hsx⟩ : ∃ sx, setOf op x = sx := ⟨_, rfl⟩
    have HSX := Lib.hid hsx
    rw [hsx] at hx
    clear hL hgx hsx
    go_wp2_with fail
    refine (sets_any op x y n nv _).mono ?_
    rw [HSX.out]
    rintro e w3 ⟨rfl, hg3⟩
    have HL3 := Lib.hid (HL.out.gr hg3)
    have HG3 := Lib.hid (HGX.out.trans0 hg3)
    clear hg3 x0 x1 x2 x3 x4
    by_cases h0 : 0 ≤ sx
    · obtain ⟨sj, rfl⟩ := Int.eq_ofNat_of_zero_le h0
      have hsj : sj < p.types.length := by omega
      have hs6 : sj < 6 := by omega
      obtain ⟨L, a3, n3, a4, n4, al, cl, hLL, d0, d1, d2, hr1, hr2, hr3⟩ := HGP.out
      have d0' := (HGA.out.trans0 HG3.out).cell d0 (by simp)
      obtain ⟨bt, ot, rfl, -, ct⟩ := hr1.at hsj
      replace ct := (HGA.out.trans0 HG3.out).cell ct (by simp)
      obtain ⟨t, ht⟩ : ∃ t, p.types[sj] = t := ⟨_, rfl⟩
      rw [ht] at ct
      have HTG := Lib.hid (show p.types.getD sj 0 = t by simp [List.getD, hsj, ht])
      have hsh : (S : Int) / 2 ^ sj = ((S / 2 ^ sj : Nat) : Int) := by simp
      have hbit0 : bits BinOp.and IntKind.i64 (((S / 2 ^ sj : Nat) : Int)) 1 = if S.testBit sj then 1 else 0 := i64_bit (by omega)
      obtain ⟨d, hd⟩ : ∃ d, S / 2 ^ sj = d := ⟨_, rfl⟩
      rw [hd] at hsh hbit0
      obtain ⟨mb, hmb⟩ : ∃ mb, S.testBit sj = mb := ⟨_, rfl⟩
      rw [hmb] at hbit0
      have HMB := Lib.hid hmb
      clear hLL d0 d1 d2 hr1 hr2 hr3 ht hd hmb
      by_cases h2 : t = 2
      · subst h2
        cases mb with
        | true =>
          rw [if_pos rfl] at hbit0
          have HA := Lib.hid (show acc2 p.types op x S.testBit = [acR (sj : Int) true] by unfold acc2; rw [HSX.out, show ((sj : Nat) : Int).toNat = sj from rfl, HTG.out, HMB.out]; simp)
          go_wp2_with (at_builtin; refine app_r w3 _ rfl (.tmp 71) (.tmp 74) 46 rfl 100 2 16 _ Try.underlying46 ACinfo rfl (by decide) (by decide) w.heap.size wA.heap.size ao cap m _ (acR (sj : Int) true) rfl HL3.out ((Gr.refl _ _).alloc _) w3.heap.size 1 rfl _ (heap1_0 _ _) rfl rfl (acR_one _ _) (by omega) HG3.out.size ?_; rintro g cap' w4 hC4 hg4 -)
          go_ret
          exact LstR.hand hC4 (by rw [HA.out]) (HGA.out.trans0 (hg4 _ (HG3.out.alloc _) (Nat.le_refl _)))
        | false =>
          rw [if_neg (by simp)] at hbit0
          have HA := Lib.hid (show acc2 p.types op x S.testBit = [] by unfold acc2; rw [HSX.out, show ((sj : Nat) : Int).toNat = sj from rfl, HMB.out]; simp)
          go_wp2_with fail
          go_ret
          exact LstR.hand HL3.out (by rw [HA.out, List.append_nil]) (HGA.out.trans0 HG3.out)
      · have et : (t == 2) = false := beq_eq_false_iff_ne.2 h2
        have HA := Lib.hid (show acc2 p.types op x S.testBit = [] by unfold acc2; rw [HSX.out, show ((sj : Nat) : Int).toNat = sj from rfl, HTG.out]; simp [h2])
        clear hbit0 hsh
        go_wp2_with fail
        go_ret
        exact LstR.hand HL3.out (by rw [HA.out, List.append_nil]) (HGA.out.trans0 HG3.out)
    · have HA := Lib.hid (show acc2 p.types op x S.testBit = [] by unfold acc2; rw [HSX.out]; simp [h0])
      go_wp2_with fail
      go_ret
      exact LstR.hand HL3.out (by rw [HA.out, List.append_nil]) (HGA.out.trans0 HG3.out)
set_option maxRecDepth 100000 in
set_option maxHeartbeats 4000000 in
theorem l4Accesses_any (p : Pr) (at' : Option Addr) (ct : Nat) (op x y n : Int) (nv : Value) (gs cs : Nat) (F : Nat → Bool) (w : World) (hT : InAt w Any p.types at') (hp : p.types.length ≤ 6) (hF : RowE w gs p.types.length cs F) (hy : op = 3 → ∃ j : Nat, y = j ∧ j < p.types.length) (hx : setOf op x < p.types.length) :
    Calls Try.prog 87 #[.slice at' p.types.length ct, .agg #[.int .i64 op, .int .i64 x, .int .i64 y, .int .i64 n, nv], .slice (some ⟨gs, 0, none⟩) p.types.length cs] w (HandR 2 (acc1 p.types op x y ++ acc2 p.types op x F) w) := by
  have HT := Lib.hid hT
  have HY := Lib.hid hy
  have HF := Lib.hid hF
  have hE := heap2_0 w (.cells #[.int .i64 op, .int .i64 x, .int .i64 y, .int .i64 n, nv] 67) (.cells #[] 100)
  have hE2 := heap2_1 w (.cells #[.int .i64 op, .int .i64 x, .int .i64 y, .int .i64 n, nv] 67) (.cells #[] 100)
  have hgA : Gr w ((w.alloc (.cells #[.int .i64 op, .int .i64 x, .int .i64 y, .int .i64 n, nv] 67)).alloc (.cells #[] 100)) none := ((Gr.refl _ _).alloc _).alloc _
  obtain ⟨wB, hwB⟩ : ∃ wB, wB = (w.alloc (.cells #[.int .i64 op, .int .i64 x, .int .i64 y, .int .i64 n, nv] 67)).alloc (.cells #[] 100) := ⟨_, rfl⟩
  clear hT hy hF
  go_enter Try.func87, Try.ntmps87
  go_upto_region 1 with fail
  go_cut [7] (fun v wx => ∃ (n0 c0 : Nat) (a0 : Option Addr), v = .slice a0 n0 c0 ∧ n0 = 0 ∧ LstR 100 2 wB w.heap.size wB.heap.size [] a0 n0 c0 ∧ wB = wx)
  case first =>
    have HL0 := Lib.hid (show LstR 100 2 wB w.heap.size wB.heap.size [] (some ⟨w.heap.size + 1, 0, none⟩) 0 0 from LstR.empty (by rw [hwB]; exact hgA.size) (by omega) (by rw [hwB]; exact hE2))
    go_wp2_with fail
    rw [← hwB]
    go_meet
    exact ⟨0, 0, _, rfl, rfl, HL0.out, rfl⟩
  case rest =>
  obtain ⟨n0, c0, a0, rfl, hn0, hL0, rfl⟩ := hcut
  have HL0 := Lib.hid hL0
  have HN0 := Lib.hid hn0
  have hn1 : n0 ≤ 5 := by omega
  rw [← hwB] at hE hE2 hgA
  have HE := Lib.hid hE
  have HGA := Lib.hid hgA
  have x0 : wB.cell? ⟨w.heap.size, 0, none⟩ = some (.int .i64 op) := cell_of_row _ _ _ _ _ _ hE
  have x1 : wB.cell? ⟨w.heap.size, 1, none⟩ = some (.int .i64 x) := cell_of_row _ _ _ _ _ _ hE
  have x2 : wB.cell? ⟨w.heap.size, 2, none⟩ = some (.int .i64 y) := cell_of_row _ _ _ _ _ _ hE
  have x3 : wB.cell? ⟨w.heap.size, 3, none⟩ = some (.int .i64 n) := cell_of_row _ _ _ _ _ _ hE
  have x4 : wB.cell? ⟨w.heap.size, 4, none⟩ = some nv := cell_of_row _ _ _ _ _ _ hE
  clear hwB hE hE2 hgA hL0 hn0
  go_upto_block 0 with fail

  go_cut [7] (fun v wx => ∃ (m cap : Nat) (ao : Option Addr), v = .slice ao m cap ∧ LstR 100 2 wx w.heap.size wB.heap.size (acc1 p.types op x y) ao m cap ∧ Gr wB wx none)
  case first =>
    by_cases h4 : op = 4
    · subst h4
      have HA := Lib.hid (show acc1 p.types 4 x y = [acR y false] by unfold acc1; simp)
      go_wp2_with (at_builtin; refine app_r wB _ rfl (.tmp 15) (.tmp 19) 46 rfl 100 2 16 _ Try.underlying46 ACinfo rfl (by decide) (by decide) w.heap.size wB.heap.size a0 c0 n0 [] (acR y false) rfl HL0.out ((Gr.refl _ _).alloc _) wB.heap.size 1 rfl _ (heap1_0 _ _) rfl rfl (acR_one _ _) (by omega) (Nat.le_refl _) ?_; rintro g cap' w4 hC4 hg4 -)
      go_meet
      exact ⟨n0 + 1, cap', _, rfl, by rw [HA.out]; exact hC4, hg4 _ ((Gr.refl _ _).alloc _) (Nat.le_refl _)⟩
    by_cases h6 : op = 6
    · subst h6
      have HA := Lib.hid (show acc1 p.types 6 x y = [acR y false] by unfold acc1; simp)
      go_wp2_with (at_builtin; refine app_r wB _ rfl (.tmp 15) (.tmp 19) 46 rfl 100 2 16 _ Try.underlying46 ACinfo rfl (by decide) (by decide) w.heap.size wB.heap.size a0 c0 n0 [] (acR y false) rfl HL0.out ((Gr.refl _ _).alloc _) wB.heap.size 1 rfl _ (heap1_0 _ _) rfl rfl (acR_one _ _) (by omega) (Nat.le_refl _) ?_; rintro g cap' w4 hC4 hg4 -)
      go_meet
      exact ⟨n0 + 1, cap', _, rfl, by rw [HA.out]; exact hC4, hg4 _ ((Gr.refl _ _).alloc _) (Nat.le_refl _)⟩
    by_cases h5 : op = 5
    · subst h5
      have HA := Lib.hid (show acc1 p.types 5 x y = [acR y true] by unfold acc1; simp)
      go_wp2_with (at_builtin; refine app_r wB _ rfl (.tmp 23) (.tmp 27) 46 rfl 100 2 16 _ Try.underlying46 ACinfo rfl (by decide) (by decide) w.heap.size wB.heap.size a0 c0 n0 [] (acR y true) rfl HL0.out ((Gr.refl _ _).alloc _) wB.heap.size 1 rfl _ (heap1_0 _ _) rfl rfl (acR_one _ _) (by omega) (Nat.le_refl _) ?_; rintro g cap' w4 hC4 hg4 -)
      go_meet
      exact ⟨n0 + 1, cap', _, rfl, by rw [HA.out]; exact hC4, hg4 _ ((Gr.refl _ _).alloc _) (Nat.le_refl _)⟩
    by_cases h7 : op = 7
    · subst h7
      have HA := Lib.hid (show acc1 p.types 7 x y = [acR x true] by unfold acc1; simp)
      go_wp2_with (at_builtin; refine app_r wB _ rfl (.tmp 32) (.tmp 36) 46 rfl 100 2 16 _ Try.underlying46 ACinfo rfl (by decide) (by decide) w.heap.size wB.heap.size a0 c0 n0 [] (acR x true) rfl HL0.out ((Gr.refl _ _).alloc _) wB.heap.size 1 rfl _ (heap1_0 _ _) rfl rfl (acR_one _ _) (by omega) (Nat.le_refl _) ?_; rintro g cap' w4 hC4 hg4 -)
      go_meet
      exact ⟨n0 + 1, cap', _, rfl, by rw [HA.out]; exact hC4, hg4 _ ((Gr.refl _ _).alloc _) (Nat.le_refl _)⟩
    by_cases h8 : op = 8
    · subst h8
      have HA := Lib.hid (show acc1 p.types 8 x y = [acR x true] by unfold acc1; simp)
      go_wp2_with (at_builtin; refine app_r wB _ rfl (.tmp 32) (.tmp 36) 46 rfl 100 2 16 _ Try.underlying46 ACinfo rfl (by decide) (by decide) w.heap.size wB.heap.size a0 c0 n0 [] (acR x true) rfl HL0.out ((Gr.refl _ _).alloc _) wB.heap.size 1 rfl _ (heap1_0 _ _) rfl rfl (acR_one _ _) (by omega) (Nat.le_refl _) ?_; rintro g cap' w4 hC4 hg4 -)
      go_meet
      exact ⟨n0 + 1, cap', _, rfl, by rw [HA.out]; exact hC4, hg4 _ ((Gr.refl _ _).alloc _) (Nat.le_refl _)⟩
    have e4 : (op == 4) = false := beq_eq_false_iff_ne.2 h4
    have e5 : (op == 5) = false := beq_eq_false_iff_ne.2 h5
    have e6 : (op == 6) = false := beq_eq_false_iff_ne.2 h6
    have e7 : (op == 7) = false := beq_eq_false_iff_ne.2 h7
    have e8 : (op == 8) = false := beq_eq_false_iff_ne.2 h8
    by_cases h3 : op = 3
    · subst h3
      obtain ⟨j, rfl, hj⟩ := HY.out rfl
      obtain ⟨t, ht⟩ : ∃ t, p.types[j] = t := ⟨_, rfl⟩
      have HTG := Lib.hid (show p.types.getD j 0 = t by simp [List.getD, hj, ht])
      have HUT := Lib.hid (show useK t 3 x (j : Int) (j : Int) = if t = 2 ∨ t = 4 then 2 else 1 by unfold useK; simp)
      have HUK := Lib.hid (l3Use_any p.types at' ct 3 x (j : Int) n nv j hj wB (HT.out.gr0 HGA.out) (by omega))
      rw [ht, HUT.out] at HUK
      clear ht
      by_cases h24 : t = 2 ∨ t = 4
      · rw [if_pos h24] at HUK
        have HA := Lib.hid (show acc1 p.types 3 x (j : Int) = [acR (j : Int) true] by unfold acc1; rw [show ((j : Nat) : Int).toNat = j from rfl, HTG.out]; simp [h24])
        go_wp2_with fail
        refine HUK.out.mono ?_
        rintro e w2 ⟨rfl, hg2⟩
        have z2 := hg2.cell x2 (by simp)
        have HL2 := Lib.hid (HL0.out.gr hg2)
        have HG2 := Lib.hid hg2
        clear x0 x1 x2 x3 x4 hg2
        go_wp2_with (at_builtin; refine app_r w2 _ rfl (.tmp 46) (.tmp 50) 46 rfl 100 2 16 _ Try.underlying46 ACinfo rfl (by decide) (by decide) w.heap.size wB.heap.size a0 c0 n0 [] (acR (j : Int) true) rfl HL2.out ((Gr.refl _ _).alloc _) w2.heap.size 1 rfl _ (heap1_0 _ _) rfl rfl (acR_one _ _) (by omega) HG2.out.size ?_; rintro g cap' w4 hC4 hg4 -)
        go_meet
        exact ⟨n0 + 1, cap', _, rfl, by rw [HA.out]; exact hC4, hg4 _ (HG2.out.alloc _) (Nat.le_refl _)⟩
      · rw [if_neg h24] at HUK
        have HA := Lib.hid (show acc1 p.types 3 x (j : Int) = [] by unfold acc1; rw [show ((j : Nat) : Int).toNat = j from rfl, HTG.out]; simp [h24])
        go_wp2_with fail
        refine HUK.out.mono ?_
        rintro e w2 ⟨rfl, hg2⟩
        have HL2 := Lib.hid (HL0.out.gr hg2)
        have HG2 := Lib.hid hg2
        clear x0 x1 x2 x3 x4 hg2
        go_wp2_with fail
        go_meet
        exact ⟨n0, c0, _, rfl, by rw [HA.out]; exact HL2.out, HG2.out⟩
    · have e3 : (op == 3) = false := beq_eq_false_iff_ne.2 h3
      have HA := Lib.hid (show acc1 p.types op x y = [] by unfold acc1; simp [h3, h4, h5, h6, h7, h8])
      clear h3 h4 h5 h6 h7 h8
      go_wp2_with fail
      go_meet
      exact ⟨n0, c0, _, rfl, by rw [HA.out]; exact HL0.out, Gr.refl _ _⟩
  case rest =>
    rename World => wx
    obtain ⟨m, cap, ao, rfl, hL, hgx⟩ := hcut
    have HL := Lib.hid hL
    have hm1 : m ≤ 1 := by have := acc1_len p.types op x y; have := hL.1; omega
    have HGX := Lib.hid hgx
    replace x3 := hgx.cell x3 (by simp)
    replace x4 := hgx.cell x4 (by simp)
    replace x0 := hgx.cell x0 (by simp)
    replace x1 := hgx.cell x1 (by simp)
    replace x2 := hgx.cell x2 (by simp)
    obtain ⟨sx, hsx⟩ : ∃ sx, setOf op x = sx := ⟨_, rfl⟩
    have HSX := Lib.hid hsx
    rw [hsx] at hx
    clear hL hgx hsx
    go_wp2_with fail
    refine (l3Set_any op x y n nv _).mono ?_
    rw [HSX.out]
    rintro e w3 ⟨rfl, hg3⟩
    have HL3 := Lib.hid (HL.out.gr hg3)
    have HG3 := Lib.hid (HGX.out.trans0 hg3)
    clear hg3 x0 x1 x2 x3 x4
    by_cases h0 : 0 ≤ sx
    · obtain ⟨sj, rfl⟩ := Int.eq_ofNat_of_zero_le h0
      have hsj : sj < p.types.length := by omega
      have hs6 : sj < 6 := by omega
      obtain ⟨bt, ot, rfl, -, ct⟩ := HT.out.at hsj
      replace ct := (HGA.out.trans0 HG3.out).cell ct (by simp)
      have cf := (HF.out.gr0 (HGA.out.trans0 HG3.out)).cell hsj
      obtain ⟨t, ht⟩ : ∃ t, p.types[sj] = t := ⟨_, rfl⟩
      rw [ht] at ct
      have HTG := Lib.hid (show p.types.getD sj 0 = t by simp [List.getD, hsj, ht])
      obtain ⟨mb, hmb⟩ : ∃ mb, F sj = mb := ⟨_, rfl⟩
      rw [hmb] at cf
      have HMB := Lib.hid hmb
      clear ht hmb
      by_cases h2 : t = 2
      · subst h2
        cases mb with
        | true =>
          have HA := Lib.hid (show acc2 p.types op x F = [acR (sj : Int) true] by unfold acc2; rw [HSX.out, show ((sj : Nat) : Int).toNat = sj from rfl, HTG.out, HMB.out]; simp)
          go_wp2_with (at_builtin; refine app_r w3 _ rfl (.tmp 69) (.tmp 72) 46 rfl 100 2 16 _ Try.underlying46 ACinfo rfl (by decide) (by decide) w.heap.size wB.heap.size ao cap m _ (acR (sj : Int) true) rfl HL3.out ((Gr.refl _ _).alloc _) w3.heap.size 1 rfl _ (heap1_0 _ _) rfl rfl (acR_one _ _) (by omega) HG3.out.size ?_; rintro g cap' w4 hC4 hg4 -)
          go_ret
          exact LstR.hand hC4 (by rw [HA.out]) (HGA.out.trans0 (hg4 _ (HG3.out.alloc _) (Nat.le_refl _)))
        | false =>
          have HA := Lib.hid (show acc2 p.types op x F = [] by unfold acc2; rw [HSX.out, show ((sj : Nat) : Int).toNat = sj from rfl, HMB.out]; simp)
          go_wp2_with fail
          go_ret
          exact LstR.hand HL3.out (by rw [HA.out, List.append_nil]) (HGA.out.trans0 HG3.out)
      · have et : (t == 2) = false := beq_eq_false_iff_ne.2 h2
        have HA := Lib.hid (show acc2 p.types op x F = [] by unfold acc2; rw [HSX.out, show ((sj : Nat) : Int).toNat = sj from rfl, HTG.out]; simp [h2])
        go_wp2_with fail
        go_ret
        exact LstR.hand HL3.out (by rw [HA.out, List.append_nil]) (HGA.out.trans0 HG3.out)
    · have HA := Lib.hid (show acc2 p.types op x F = [] by unfold acc2; rw [HSX.out]; simp [h0])
      go_wp2_with fail
      go_ret
      exact LstR.hand HL3.out (by rw [HA.out, List.append_nil]) (HGA.out.trans0 HG3.out)
/-- What AccessesOf says. -/
noncomputable def accsOf (p : Pr) (a : Int) : List (List Value) :=
  if 0 ≤ a ∧ a < (ptsOf p).length then acc1 p.types (ptAt (pts p) a.toNat).op (ptAt (pts p) a.toNat).x (ptAt (pts p) a.toNat).y ++ acc2 p.types (ptAt (pts p) a.toNat).op (ptAt (pts p) a.toNat).x (mayB p a.toNat) else []
theorem accsOf_in {p : Pr} {k : Nat} (hk : k < (ptsOf p).length) {q : Pt} (hq : ptAt (pts p) k = q) : accsOf p k = acc1 p.types q.op q.x q.y ++ acc2 p.types q.op q.x (mayB p k) := by
  unfold accsOf; rw [if_pos (by omega), show ((k : Nat) : Int).toNat = k from rfl, hq]
theorem accsOf_out {p : Pr} {a : Int} (h : ¬ (0 ≤ a ∧ a < (ptsOf p).length)) : accsOf p a = [] := by unfold accsOf; rw [if_neg h]
theorem acc2_len (T : List Int) (op x : Int) (mb : Nat → Bool) : (acc2 T op x mb).length ≤ 1 := by
  unfold acc2
  (repeat' split) <;> simp
theorem accsOf_len (p : Pr) (a : Int) : (accsOf p a).length ≤ 1048576 := by
  unfold accsOf
  split
  · rw [List.length_append]
    have h1 := acc1_len p.types (ptAt (pts p) a.toNat).op (ptAt (pts p) a.toNat).x (ptAt (pts p) a.toNat).y
    have h2 := acc2_len p.types (ptAt (pts p) a.toNat).op (ptAt (pts p) a.toNat).x (mayB p a.toNat)
    omega
  · simp
theorem acc1_is (T : List Int) (op x y : Int) : IsAccess (acc1 T op x y) := by
  unfold acc1
  intro r hr
  (repeat' split at hr) <;> simp at hr <;> exact ⟨_, _, hr⟩
theorem acc2_is (T : List Int) (op x : Int) (mb : Nat → Bool) : IsAccess (acc2 T op x mb) := by
  unfold acc2
  intro r hr
  split at hr
  · simp at hr; exact ⟨_, _, hr⟩
  · simp at hr
theorem accsOf_is (p : Pr) (a : Int) : IsAccess (accsOf p a) := by
  unfold accsOf
  split
  · intro r hr
    rcases List.mem_append.1 hr with h | h
    · exact acc1_is _ _ _ _ r h
    · exact acc2_is _ _ _ _ r h
  · intro r hr; simp at hr
theorem pt_y3 {p : Pr} (hv : validP p = true) {k : Nat} (hk : k < (pts p).length) {q : Pt} (hq : ptAt (pts p) k = q) : q.op = 3 → ∃ j : Nat, q.y = j ∧ j < p.types.length := by
  have h := pt_ok hv hk
  rw [← ptAt_get hk, hq] at h
  intro ho
  rcases h with h | h | h | h
  · omega
  · omega
  · omega
  · obtain ⟨_, y, _, hy, _, hl⟩ := simple_xy h (by omega)
    exact ⟨y, hy, hl⟩
set_option maxRecDepth 100000 in
set_option maxHeartbeats 2000000 in
theorem implAccessesOf_any (p : Pr) (a : Int) (at' ab : Option Addr) (ct cb : Nat) (w : World) (hT : InAt w Any p.types at') (hB : SlAt w Any p.body ab) (hs : p.types.length ≤ 1048576) (hc : p.body.length ≤ 1048576) :
    Calls Try.prog 49 #[.agg #[.slice at' p.types.length ct, .slice ab p.body.length cb], .int .i64 a] w (HandR 2 (accsOf p a) w) := by
  have hg1 : ∀ o o', Gr w ((w.alloc o).alloc o') none := fun o o' => ((Gr.refl _ _).alloc _).alloc _
  go_enter Try.func49, Try.ntmps49
  go_wp2_with fail
  refine (graphOf_any p [a] at' ab _ ct cb _ _ (hT.gr0 (hg1 _ _)) (hB.gr0 (hg1 _ _)) (inAt_one _ _ _) hs hc (by simp)).mono ?_
  rintro e w1 ⟨hg, hif⟩
  have hG1 : Gr w w1 none := (hg1 _ _).trans0 hg
  clear hg
  rw [graph_oneE] at hif
  by_cases hok : 0 ≤ a ∧ a < (ptsOf p).length
  · rw [if_pos (by simp [hok])] at hif
    obtain ⟨gb, rfl, hgb, hGA⟩ := hif
    obtain ⟨k, rfl⟩ := Int.eq_ofNat_of_zero_le hok.1
    have hk : k < (ptsOf p).length := by omega
    have hv : validP p = true := ptsOf_valid hok
    have hpp : ptsOf p = pts p := by unfold ptsOf; rw [if_pos hv]
    have hkO := hk
    rw [hpp] at hk
    have hl : (pts p).length ≤ 61 := pts_len hv
    have h6 := valid_types hv
    have HV := Lib.hid hv
    have HGP := Lib.hid hGA
    obtain ⟨L, a3, n3, a4, n4, al, cl, hLL, d0, d1, d2, hr1, hr2, hr3⟩ := hGA
    have hkL : k < L.length := by rw [hLL]; exact hk
    obtain ⟨b, po, rfl, an, cn, c0, c1, c2, c3, c4, -, -⟩ := hr3 k hkL
    obtain ⟨q, eq⟩ : ∃ q, L[k] = q := ⟨_, rfl⟩
    rw [eq] at c0 c1 c2 c3 c4
    obtain ⟨nn, hnn⟩ : ∃ nn, q.next.length = nn := ⟨_, rfl⟩
    rw [hnn] at c4
    have hpa : ptAt (pts p) k = q := by rw [← hLL]; exact (ptAt_get hkL).trans eq
    have HO := Lib.hid (accsOf_in hkO hpa)
    have HY := Lib.hid (pt_y3 HV.out hk hpa)
    have HX := Lib.hid (show setOf q.op q.x < p.types.length by have := (set_in HV.out hk).2; rw [← ptAt_get hk, hpa] at this; exact this)
    obtain ⟨n, hn⟩ : ∃ n, L.length = n := ⟨_, rfl⟩
    have HLL := Lib.hid hLL
    have HN := Lib.hid hn
    rw [hn] at d2 hkL
    clear hok hv hpp hkO eq hnn hpa d0 d1 hr1 hr2 hr3 hLL hn
    go_wp2_with fail
    go_region_with (first | (go_at_call 64; refine (maybeSet_any p gb _ (by exact HGP.out.gr ((Gr.refl _ _).drew)) HV.out).mono ?_; rintro e w2 ⟨go, O, rfl, hW, hO6, hN, hg2⟩; have e2 := hg2.cell d2 (by simp); have x0 := hg2.cell c0 (by simp); have x1 := hg2.cell c1 (by simp); have x2 := hg2.cell c2 (by simp); have x3 := hg2.cell c3 (by simp); have x4 := hg2.cell c4 (by simp); rw [← HLL.out, HN.out] at hW ⊢; have o0 := IRow.cell hW (j := k) hkL; have h06 : O k < 2 ^ 6 := hO6 k; obtain ⟨S, hS⟩ : ∃ S, O k = S := ⟨_, rfl⟩; have HB := Lib.hid (show S.testBit = mayB p k from (by funext v; rw [← hS, Bool.eq_iff_iff, hN, mayB_iff])); rw [hS] at o0 h06; clear hN hO6 hS hW; have HG2 := Lib.hid hg2; clear hg2) | (go_at_call 88; refine (accesses_any p gb S q.op q.x q.y q.n (.slice an nn cn) _ (HGP.out.gr ((Gr.refl _ _).drew.trans0 HG2.out)) h6 h06 HY.out HX.out).mono ?_; rw [HB.out, ← HO.out]; intro e w4 hh; have hhh := hh.after (hG1.trans0 ((Gr.refl _ _).drew.trans0 HG2.out)); obtain ⟨a4, c4, rfl, -⟩ := hh; have HH := Lib.hid hhh; clear hhh))
    all_goals
      go_wp2_with fail
      go_ret
      exact HH.out
  · rw [if_neg (by simp; omega)] at hif
    subst hif
    have HO := Lib.hid (accsOf_out hok)
    clear hok
    go_wp2_with fail
    go_ret
    rw [HO.out]
    exact HandR.nil _ _ _ hG1
set_option maxRecDepth 100000 in
set_option maxHeartbeats 2000000 in
theorem specAccessesOf_any (p : Pr) (a : Int) (at' ab : Option Addr) (ct cb : Nat) (w : World) (hT : InAt w Any p.types at') (hB : SlAt w Any p.body ab) (hs : p.types.length ≤ 1048576) (hc : St.count p.body ≤ 1048576) :
    Calls Try.prog 48 #[.agg #[.slice at' p.types.length ct, .slice ab p.body.length cb], .int .i64 a] w (HandR 2 (accsOf p a) w) := by
  have hlc := count_length p.body
  have hg1 : ∀ o, Gr w (w.alloc o) none := fun o => (Gr.refl _ _).alloc _
  go_enter Try.func48, Try.ntmps48
  go_wp2_with fail
  refine (specPointsOf_any p at' ab ct cb _ (hT.gr0 (hg1 _)) (hB.gr0 (hg1 _)) hs hc).mono ?_
  rintro e w1 ⟨M, am, c, hM, rfl, hown, hg⟩
  have hG1 : Gr w w1 none := (hg1 _).trans0 hg
  have q0 : w1.cell? ⟨w.heap.size, 0, none⟩ = some (.slice at' p.types.length ct) := hg.cell (p := ⟨w.heap.size, 0, none⟩) (cell_of_row _ _ _ _ _ _ (heap1_0 _ _)) (by simp)
  have q1 : w1.cell? ⟨w.heap.size, 1, none⟩ = some (.slice ab p.body.length cb) := hg.cell (p := ⟨w.heap.size, 1, none⟩) (cell_of_row _ _ _ _ _ _ (heap1_0 _ _)) (by simp)
  have HM := Lib.hid hM
  have HR := Lib.hid hown.read
  clear hg hM hown
  by_cases h0 : a < 0
  · have hd0 : decide (a < 0) = true := decide_eq_true h0
    have HO := Lib.hid (accsOf_out (p := p) (a := a) (by omega))
    go_wp2_with fail
    go_ret
    rw [HO.out]
    exact LstR.hand (LstR.empty (e := 100) (s := 2) hG1.size hG1.size (heap1_0 _ _)) rfl (hG1.alloc _)
  have hd0 : decide (a < 0) = false := decide_eq_false h0
  obtain ⟨k, rfl⟩ := Int.eq_ofNat_of_zero_le (show 0 ≤ a by omega)
  obtain ⟨n, hn⟩ : ∃ n, M.length = n := ⟨_, rfl⟩
  have HN := Lib.hid hn
  rw [hn]
  by_cases h1 : n ≤ k
  · have hd1 : decide ((n : Int) ≤ (k : Int)) = true := decide_eq_true (by omega)
    have HO := Lib.hid (accsOf_out (p := p) (a := k) (by rw [← HM.out, HN.out]; omega))
    clear hn
    go_wp2_with fail
    go_ret
    rw [HO.out]
    exact LstR.hand (LstR.empty (e := 100) (s := 2) hG1.size hG1.size (heap1_0 _ _)) rfl (hG1.alloc _)
  · have hd1 : decide ((n : Int) ≤ (k : Int)) = false := decide_eq_false (by omega)
    have hkn : k < n := by omega
    have hkM : k < M.length := by omega
    have hkO : k < (ptsOf p).length := by rw [← HM.out]; exact hkM
    have hv : validP p = true := valid_posE (by omega)
    have hpp : ptsOf p = pts p := by unfold ptsOf; rw [if_pos hv]
    rw [hpp] at HM
    have hk : k < (pts p).length := by rw [← HM.out]; exact hkM
    have hml : n ≤ 61 := by rw [← hn, HM.out]; exact pts_len hv
    have h6 := valid_types hv
    have HV := Lib.hid hv
    obtain ⟨b, po, rfl, an, cn, c0, c1, c2, c3, c4, -, -⟩ := HR.out k hkM
    obtain ⟨q, eq⟩ : ∃ q, M[k] = q := ⟨_, rfl⟩
    rw [eq] at c0 c1 c2 c3 c4
    obtain ⟨nn, hnn⟩ : ∃ nn, q.next.length = nn := ⟨_, rfl⟩
    rw [hnn] at c4
    have hpa : ptAt (pts p) k = q := by rw [← HM.out]; exact (ptAt_get hkM).trans eq
    have HO := Lib.hid (accsOf_in hkO hpa)
    have HY := Lib.hid (pt_y3 HV.out hk hpa)
    have HX := Lib.hid (show setOf q.op q.x < p.types.length by have := (set_in HV.out hk).2; rw [← ptAt_get hk, hpa] at this; exact this)
    have HT1 := Lib.hid (hT.gr0 hG1)
    have HB1 := Lib.hid (hB.gr0 hG1)
    have HFB := Lib.hid (show fwdB false p k = mayB p k by funext v; unfold fwdB; rw [if_neg (by simp)])
    clear hv hpp hkO eq hnn hpa hn hkM h0 h1
    go_wp2_with fail
    go_region_with (first | (go_at_call 57; refine (l3Forward_any p false at' ab ct cb _ (HT1.out.gr0 (Gr.refl _ _).drew) (HB1.out.gr0 (Gr.refl _ _).drew) HV.out).mono ?_; rintro e w2 ⟨g2, rfl, hTb, hg2⟩; have e0 := hg2.cell q0 (by simp); have e1 := hg2.cell q1 (by simp); have x0 := hg2.cell c0 (by simp); have x1 := hg2.cell c1 (by simp); have x2 := hg2.cell c2 (by simp); have x3 := hg2.cell c3 (by simp); have x4 := hg2.cell c4 (by simp); obtain ⟨bk, ck, t0, hR⟩ := hTb k hk; rw [← HM.out, HN.out]; have HRK := Lib.hid hR; have HG2 := Lib.hid hg2; clear hg2 hTb hR) | (go_at_call 87; refine (l4Accesses_any p at' ct q.op q.x q.y q.n (.slice an nn cn) bk ck (fwdB false p k) _ (HT1.out.gr0 ((Gr.refl _ _).drew.trans0 HG2.out)) h6 HRK.out HY.out HX.out).mono ?_; rw [HFB.out, ← HO.out]; intro e w4 hh; have hhh := hh.after (hG1.trans0 ((Gr.refl _ _).drew.trans0 HG2.out)); obtain ⟨a4, c4, rfl, -⟩ := hh; have HH := Lib.hid hhh; clear hhh))
    all_goals
      go_wp2_with fail
      go_ret
      exact HH.out
end Go.Proofs.Ytadlnjglpigjmaa

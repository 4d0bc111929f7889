/- How a point uses a variable: walks of UseOf, in the program and in the reference. -/
/- UseOf of the program and of the reference: both hand back useOf, whatever they are given. -/
import Derived.Test.YtpnaeijkllmihaaS1

import Derived.Deep.RegionWith

import Derived.Deep.DeepCutAuto

namespace Go.Proofs.Ytpnaeijkllmihaa

open Go.RowKit

/-- How a point with the given op, x and y uses the variable v of type t. -/
def useK (t op x y v : Int) : Int :=
  if op = 3 then (if y = v then (if t = 2 ∨ t = 4 then 2 else 1) else 0)
  else if op = 4 ∨ op = 5 ∨ op = 6 then (if y = v then 3 else 0)
  else if op = 7 then (if x = v then 3 else if y = v then 1 else 0)
  else if op = 8 then (if x = v then 2 else 0) else 0

set_option maxHeartbeats 1000000 in
theorem l3Use_any (types : List Int) (at' : Option Addr) (ct : Nat) (op x y n : Int) (nv : Value) (k : Nat) (hk : k < types.length) (w : World) (hT : InAt w Any types at') (_hlt : types.length ≤ 1048576) :
    Calls Try.prog 72 #[.slice at' types.length ct, .agg #[.int .i64 op, .int .i64 x, .int .i64 y, .int .i64 n, nv], .int .i64 k] w fun e w' => e = .returned (.int .i64 (useK types[k] op x y k)) ∧ Gr w w' none := by
  obtain ⟨b, off, rfl, _, hc⟩ := hT.at hk
  obtain ⟨t, et⟩ : ∃ t, types[k] = t := ⟨_, rfl⟩
  rw [et] at hc ⊢
  have hc' : ∀ o, (w.alloc o).cell? ⟨b, off + k, none⟩ = some (.int .i64 t) := fun o => ((Gr.refl w none).alloc o).cell hc (by simp)
  clear hc et hT
  go_enter Try.func72, Try.ntmps72
  go_wp2
  all_goals go_ret
  all_goals refine ⟨ret_int ?_, (Gr.refl _ _).alloc _⟩
  all_goals (clear hc'; simp at *; unfold useK; (repeat' split) <;> omega)

theorem takes_any (p : Pr) (gb k : Nat) (hk : k < p.types.length) (w : World) (hG : GraphAt w p gb) (_hlt : p.types.length ≤ 1048576) :
    Calls Try.prog 104 #[.pointer (some ⟨gb, 0, none⟩), .int .i64 k] w fun e w' => e = .returned (.bool (p.types[k] == 2 || p.types[k] == 4)) ∧ w = w' := by
  obtain ⟨L, a3, n3, a4, n4, al, cl, _, d0, d1, d2, hr1, _, _⟩ := hG
  obtain ⟨b, off, rfl, _, hc⟩ := hr1.at hk
  obtain ⟨t, et⟩ : ∃ t, p.types[k] = t := ⟨_, rfl⟩
  rw [et] at hc ⊢
  clear et hr1
  go_enter Try.func104, Try.ntmps104
  go_wp2
  all_goals go_ret
  all_goals exact ⟨ret_bool (by simp_all), rfl⟩
theorem isVar_any (p : Pr) (gb : Nat) (v : Int) (w : World) (hG : GraphAt w p gb) (hlt : p.types.length ≤ 1048576) :
    Calls Try.prog 58 #[.pointer (some ⟨gb, 0, none⟩), .int .i64 v] w fun e w' => e = .returned (.bool (within v 0 ((p.types.length : Int) - 1))) ∧ w = w' := by
  obtain ⟨L, a3, n3, a4, n4, al, cl, _, d0, d1, d2, hr1, _, _⟩ := hG
  go_enter Try.func58, Try.ntmps58
  go_wp2_with (go_at_call 90; refine (within_any _ _ _ _).mono ?_; rintro e w' ⟨rfl, rfl⟩)
  go_ret
  exact ⟨rfl, rfl⟩
set_option maxHeartbeats 1000000 in
theorem use_any (p : Pr) (gb k : Nat) (op x y n : Int) (nv : Value) (hk : k < p.types.length) (w : World) (hG : GraphAt w p gb) (hlt : p.types.length ≤ 1048576) :
    Calls Try.prog 70 #[.pointer (some ⟨gb, 0, none⟩), .agg #[.int .i64 op, .int .i64 x, .int .i64 y, .int .i64 n, nv], .int .i64 k] w fun e w' => e = .returned (.int .i64 (useK p.types[k] op x y k)) ∧ Gr w w' none := by
  have HT := fun o => takes_any p gb k hk (w.alloc o) (hG.gr ((Gr.refl _ _).alloc _)) hlt
  clear hG
  revert HT
  generalize p.types[k] = t
  intro HT
  have H := Lib.hid HT
  clear HT
  go_enter Try.func70, Try.ntmps70
  go_wp2_with (go_at_call 104; refine (H.out _).mono ?_; rintro e w' ⟨rfl, rfl⟩)
  all_goals go_ret
  all_goals refine ⟨ret_int ?_, (Gr.refl _ _).alloc _⟩
  all_goals (clear H; simp at *; unfold useK; (repeat' split) <;> omega)

/-- Whether there are such a point and such a variable. -/
def hasPoint (p : Pr) (a v : Int) : Bool := decide (0 ≤ a) && decide (a < (ptsOf p).length) && decide (0 ≤ v) && decide (v < p.types.length)
set_option maxHeartbeats 1000000 in
theorem l3Point_any (p : Pr) (a v : Int) (at' ab : Option Addr) (ct cb : Nat) (w : World) (hT : InAt w Any p.types at') (hB : SlAt w Any p.body ab) (hs : p.types.length ≤ 1048576) (hc : St.count p.body ≤ 1048576) :
    Calls Try.prog 71 #[.agg #[.slice at' p.types.length ct, .slice ab p.body.length cb], .int .i64 a, .int .i64 v] w fun e w' => e = .returned (.bool (hasPoint p a v)) ∧ Gr w w' none := by
  have hlc := count_length p.body
  have hg1 : ∀ o, Gr w (w.alloc o) none := fun o => (Gr.refl _ _).alloc _
  go_enter Try.func71, Try.ntmps71
  go_wp2_with fail
  refine (validS_any p at' ab ct cb _ (hT.gr0 (hg1 _)) (hB.gr0 (hg1 _)) hs hc (by omega)).mono ?_
  rw [valid_same]
  rintro e w1 ⟨rfl, hg⟩
  have hG1 : Gr w w1 none := (hg1 _).trans0 hg
  have q0 : w1.cell? ⟨w.heap.size, 0, none⟩ = some (.slice at' p.types.length ct) := hg.cell (p := ⟨w.heap.size, 0, none⟩) (cell?_new2 _ _).1 (by simp)
  have q1 : w1.cell? ⟨w.heap.size, 1, none⟩ = some (.slice ab p.body.length cb) := hg.cell (p := ⟨w.heap.size, 1, none⟩) (cell?_new2 _ _).2 (by simp)
  clear hg
  by_cases ha : ¬ 0 ≤ a
  · have HP := Lib.hid (show hasPoint p a v = false by unfold hasPoint; simp; omega)
    cases hv : validP p with
    | false =>
      go_wp2_with fail
      go_ret
      exact ⟨ret_bool HP.out.symm, hG1⟩
    | true =>
      clear hv
      go_wp2_with fail
      go_ret
      exact ⟨ret_bool HP.out.symm, hG1⟩
  cases hv : validP p with
  | false =>
    have HP := Lib.hid (show hasPoint p a v = false by unfold hasPoint ptsOf; rw [hv]; simp; omega)
    clear hv
    go_wp2_with fail
    go_ret
    exact ⟨ret_bool HP.out.symm, hG1⟩
  | true =>
    have hcnt := valid_count hv
    have HV := Lib.hid hv
    clear hv
    go_wp2_with fail
    refine (l2Points_any p at' ab ct cb _ (hB.gr0 hG1) (by omega) (by unfold maxLen; omega)).mono ?_
    rintro e w2 ⟨M, am, c, hM, rfl, hown, hg2⟩
    replace q0 := hg2.cell q0 (by simp)
    replace q1 := hg2.cell q1 (by simp)
    have hp : ptsOf p = M := by rw [hM, ptsOf, if_pos HV.out]
    have hml : M.length ≤ 100 := by have := pts_le p; rw [hM]; omega
    have hP : hasPoint p a v = (decide (0 ≤ a) && decide (a < M.length) && decide (0 ≤ v) && decide (v < p.types.length)) := by unfold hasPoint; rw [hp]
    have HP := Lib.hid hP
    clear hM hp hP hown
    have ha0 : 0 ≤ a := by omega
    by_cases h1 : a < M.length
    · by_cases h2 : 0 ≤ v
      · by_cases h3 : v < p.types.length
        · go_wp2_with fail
          go_ret
          exact ⟨ret_bool (by rw [HP.out]; simp [ha0, h1, h2, h3]), hG1.trans0 hg2⟩
        · have hF := Lib.hid (show decide (v < p.types.length) = false by simp; omega)
          go_wp2_with fail
          go_ret
          exact ⟨ret_bool (by rw [HP.out, hF.out]; simp), hG1.trans0 hg2⟩
      · have hF := Lib.hid (show decide (0 ≤ v) = false by simp; omega)
        go_wp2_with fail
        go_ret
        exact ⟨ret_bool (by rw [HP.out, hF.out]; simp), hG1.trans0 hg2⟩
    · have hF := Lib.hid (show decide (a < (M.length : Int)) = false by simp; omega)
      go_wp2_with fail
      go_ret
      exact ⟨ret_bool (by rw [HP.out, hF.out]; simp), hG1.trans0 hg2⟩

/-- What UseOf says. -/
def useOf (p : Pr) (a v : Int) : Int := if hasPoint p a v = true then useK (p.types.getD v.toNat 0) ((ptsOf p).getD a.toNat ⟨0, 0, 0, 0, []⟩).op ((ptsOf p).getD a.toNat ⟨0, 0, 0, 0, []⟩).x ((ptsOf p).getD a.toNat ⟨0, 0, 0, 0, []⟩).y v else 0
theorem useOf_in {p : Pr} {k j : Nat} {L : List Pt} (hL : L = ptsOf p) (hk : k < L.length) (hj : j < p.types.length) {q : Pt} (hq : L[k] = q) : useOf p k j = useK p.types[j] q.op q.x q.y j := by
  subst hL hq
  unfold useOf
  rw [if_pos (by unfold hasPoint; simp; omega)]
  simp [List.getD, hk, hj]
theorem useOf_out {p : Pr} {a v : Int} (h : hasPoint p a v = false) : useOf p a v = 0 := by
  unfold useOf; rw [h]; rfl
end Go.Proofs.Ytpnaeijkllmihaa

namespace Go.Proofs.Ytpnaeijkllmihaa

open Go.RowKit

set_option maxRecDepth 100000 in
set_option maxHeartbeats 2000000 in
theorem specUseOf_any (p : Pr) (a v : Int) (at' ab : Option Addr) (ct cb : Nat) (w : World) (hT : InAt w Any p.types at') (hB : SlAt w Any p.body ab) (hs : p.types.length ≤ 1048576) (hc : St.count p.body ≤ 1048576) :
    Calls Try.prog 27 #[.agg #[.slice at' p.types.length ct, .slice ab p.body.length cb], .int .i64 a, .int .i64 v] w fun e w' => e = .returned (.int .i64 (useOf p a v)) ∧ Gr w w' none := by
  have hlc := count_length p.body
  have hg1 : ∀ o, Gr w (w.alloc o) none := fun o => (Gr.refl _ _).alloc _
  go_enter Try.func27, Try.ntmps27
  go_wp2_with fail
  refine (l3Point_any p a v at' ab ct cb _ (hT.gr0 (hg1 _)) (hB.gr0 (hg1 _)) hs hc).mono ?_
  rintro e w1 ⟨rfl, hg⟩
  have hG1 : Gr w w1 none := (hg1 _).trans0 hg
  have q0 : w1.cell? ⟨w.heap.size, 0, none⟩ = some (.slice at' p.types.length ct) := hg.cell (p := ⟨w.heap.size, 0, none⟩) (cell?_new2 _ _).1 (by simp)
  have q1 : w1.cell? ⟨w.heap.size, 1, none⟩ = some (.slice ab p.body.length cb) := hg.cell (p := ⟨w.heap.size, 1, none⟩) (cell?_new2 _ _).2 (by simp)
  clear hg
  cases hv : hasPoint p a v with
  | false =>
    have HO := Lib.hid (useOf_out hv)
    clear hv
    go_wp2_with fail
    go_ret
    exact ⟨ret_int HO.out.symm, hG1⟩
  | true =>
    have hin : (0 ≤ a ∧ a < (ptsOf p).length) ∧ 0 ≤ v ∧ v < p.types.length := by unfold hasPoint at hv; simp at hv; omega
    have hval : validP p = true := by
      cases h : validP p with
      | true => rfl
      | false => exfalso; unfold ptsOf at hin; rw [h] at hin; simp at hin; omega
    have hcnt := valid_count hval
    have hpp : ptsOf p = pts p := by unfold ptsOf; rw [if_pos hval]
    obtain ⟨⟨ha0, ha1⟩, hv0, hv1⟩ := hin
    obtain ⟨k, rfl⟩ := Int.eq_ofNat_of_zero_le ha0
    obtain ⟨j, rfl⟩ := Int.eq_ofNat_of_zero_le hv0
    have hj : j < p.types.length := by omega
    have hk : k < (ptsOf p).length := by omega
    have hml : (ptsOf p).length ≤ 61 := ptsOf_le p
    have HPP := Lib.hid hpp
    clear hv hval hpp ha0 hv0 ha1 hv1
    go_upto_region 3 with fail
    go_cut [6] (fun s wx => s = .int .i64 (useOf p k j) ∧ Gr w wx none)
    case first =>
      go_region_with (first | (go_at_call 67; refine (l2Points_any p at' ab ct cb _ (by exact hB.gr0 hG1.drew) (by omega) (by unfold maxLen; omega)).mono ?_; rintro e w2 ⟨M, am, c, hM, rfl, hown, hg2⟩; have y0 := hg2.cell q0 (by simp); have y1 := hg2.cell q1 (by simp); have hMp : M = ptsOf p := hM.trans HPP.out.symm; have hkM : k < M.length := (by rw [hMp]; exact hk); have hMl : M.length ≤ 61 := (by rw [hMp]; exact hml); obtain ⟨b, off, rfl, an, cn, c0, c1, c2, c3, c4, hin, -⟩ := hown.read k hkM; obtain ⟨q, eq⟩ : ∃ q, M[k] = q := ⟨_, rfl⟩; have HO := Lib.hid (useOf_in (j := j) hMp hkM hj eq); rw [eq] at c0 c1 c2 c3 c4; clear hM hMp eq hown) | (go_at_call 72; refine (l3Use_any p.types at' ct q.op q.x q.y q.n (.slice an q.next.length cn) j hj _ (by exact hT.gr0 (hG1.drew.trans0 hg2)) hs).mono ?_; rintro e w3 ⟨rfl, hg3⟩))
      all_goals
        go_wp2_with fail
        go_meet
        exact ⟨by rw [HO.out], (hG1.drew.trans0 hg2).trans0 hg3⟩
    case rest =>
      obtain ⟨rfl, hG⟩ := hcut
      go_wp2_with fail
      go_ret
      exact ⟨rfl, hG⟩

set_option maxRecDepth 100000 in
set_option maxHeartbeats 2000000 in
theorem implUseOf_any (p : Pr) (a v : Int) (at' ab : Option Addr) (ct cb : Nat) (w : World) (hT : InAt w Any p.types at') (hB : SlAt w Any p.body ab) (hs : p.types.length ≤ 1048576) (hc : p.body.length ≤ 1048576) :
    Calls Try.prog 26 #[.agg #[.slice at' p.types.length ct, .slice ab p.body.length cb], .int .i64 a, .int .i64 v] w fun e w' => e = .returned (.int .i64 (useOf p a v)) ∧ Gr w w' none := by
  have hg1 : ∀ o o', Gr w ((w.alloc o).alloc o') none := fun o o' => ((Gr.refl _ _).alloc _).alloc _
  go_enter Try.func26, Try.ntmps26
  go_wp2_with fail
  refine (graphOf_any p [a] at' ab _ ct cb _ _ (hT.gr0 (hg1 _ _)) (hB.gr0 (hg1 _ _)) (InAt.of fun j hj => ⟨trivial, ?_⟩) hs hc (by simp)).mono ?_
  · have : j = 0 := by simp at hj; omega
    subst this
    exact cell_of_row _ _ 0 _ _ _ (heap2_1 _ _ _)
  rintro e w1 ⟨hg, hif⟩
  have hG1 : Gr w w1 none := (hg1 _ _).trans0 hg
  by_cases hok : graphOk p [a] = true
  · rw [if_pos hok] at hif
    obtain ⟨gb, rfl, hgb, hGA⟩ := hif
    have hval : validP p = true := by unfold graphOk at hok; rw [Bool.and_eq_true] at hok; exact hok.1
    have HPP := Lib.hid (show ptsOf p = pts p by unfold ptsOf; rw [if_pos hval])
    have hin : 0 ≤ a ∧ a < (ptsOf p).length := by
      unfold graphOk at hok
      rw [HPP.out]
      simp [within] at hok
      omega
    have hml : (ptsOf p).length ≤ 61 := ptsOf_le p
    obtain ⟨k, rfl⟩ := Int.eq_ofNat_of_zero_le hin.1
    have hk : k < (ptsOf p).length := by omega
    clear hval hok hin
    go_wp2_with fail
    refine (isVar_any p gb v _ hGA hs).mono ?_
    rintro e w2 ⟨rfl, rfl⟩
    cases hw : within v 0 ((p.types.length : Int) - 1) with
    | false =>
      have HO := Lib.hid (useOf_out (p := p) (a := k) (v := v) (by unfold within at hw; unfold hasPoint; simp at hw ⊢; omega))
      clear hw
      go_wp2_with fail
      go_ret
      exact ⟨ret_int HO.out.symm, hG1⟩
    | true =>
      have hin : 0 ≤ v ∧ v < p.types.length := by unfold within at hw; simp at hw; omega
      obtain ⟨j, rfl⟩ := Int.eq_ofNat_of_zero_le hin.1
      have hj : j < p.types.length := by omega
      clear hw hin
      have HGA := hGA
      obtain ⟨L, a3, n3, a4, n4, al, cl, hL, d0, d1, d2, hr1, hr2, hr3⟩ := hGA
      have hL' : L = ptsOf p := hL.trans HPP.out.symm
      have hkL : k < L.length := by rw [hL']; exact hk
      have hlL : L.length ≤ 61 := by rw [hL']; exact hml
      obtain ⟨b, off, rfl, an, cn, c0, c1, c2, c3, c4, hin', -⟩ := hr3 k hkL
      obtain ⟨q, eq⟩ : ∃ q, L[k] = q := ⟨_, rfl⟩
      have HO := Lib.hid (useOf_in (j := j) hL' hkL hj eq)
      rw [eq] at c0 c1 c2 c3 c4
      clear hL eq hL' d0 d1 hr1 hr2 hr3 hin'
      go_wp2_with fail
      refine (use_any p gb j q.op q.x q.y q.n (.slice an q.next.length cn) hj _ HGA hs).mono ?_
      rintro e w3 ⟨rfl, hg3⟩
      go_wp2_with fail
      go_ret
      exact ⟨ret_int HO.out.symm, hG1.trans0 hg3⟩
  · rw [if_neg hok] at hif
    subst hif
    have hO : useOf p a v = 0 := by
      refine useOf_out ?_
      unfold hasPoint ptsOf
      split
      · rename_i hv
        simp [graphOk, hv, within] at hok
        simp
        omega
      · simp
        omega
    have HO := Lib.hid hO
    clear hO hok
    go_wp2_with fail
    go_ret
    exact ⟨ret_int (by rw [HO.out]), hG1⟩
end Go.Proofs.Ytpnaeijkllmihaa

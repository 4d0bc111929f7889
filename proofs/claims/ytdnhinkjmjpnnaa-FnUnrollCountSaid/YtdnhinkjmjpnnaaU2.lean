/- How a point uses a variable: walks of UseOf, in the program and in the reference. -/
/- UseOf of the program and of the reference: both hand back useOf, whatever they are given. -/
import Derived.Test.YtdnhinkjmjpnnaaS1

import Derived.Deep.RegionWith

import Derived.Deep.DeepCutAuto

namespace Go.Proofs.Ytdnhinkjmjpnnaa

open Go.RowKit

/-- How a point with the given op, x and y uses the variable v of type t. -/
def useK (t op x y v : Int) : Int :=
  if op = 3 then (if y = v then (if t = 2 ∨ t = 4 then 2 else 1) else 0)
  else if op = 4 ∨ op = 5 ∨ op = 6 then (if y = v then 3 else 0)
  else if op = 7 then (if x = v then 3 else if y = v then 1 else 0)
  else if op = 8 then (if x = v then 2 else 0) else 0

set_option maxHeartbeats 1000000 in
theorem l3Use_any (types : List Int) (at' : Option Addr) (ct : Nat) (op x y n : Int) (nv : Value) (k : Nat) (hk : k < types.length) (w : World) (hT : InAt w Any types at') (_hlt : types.length ≤ 1048576) :
    Calls Try.prog 99 #[.slice at' types.length ct, .agg #[.int .i64 op, .int .i64 x, .int .i64 y, .int .i64 n, nv], .int .i64 k] w fun e w' => e = .returned (.int .i64 (useK types[k] op x y k)) ∧ Gr w w' none := by
  obtain ⟨b, off, rfl, _, hc⟩ := hT.at hk
  obtain ⟨t, et⟩ : ∃ t, types[k] = t := ⟨_, rfl⟩
  rw [et] at hc ⊢
  have hc' : ∀ o, (w.alloc o).cell? ⟨b, off + k, none⟩ = some (.int .i64 t) := fun o => ((Gr.refl w none).alloc o).cell hc (by simp)
  clear hc et hT
  go_enter Try.func99, Try.ntmps99
  go_wp2
  all_goals go_ret
  all_goals refine ⟨ret_int ?_, (Gr.refl _ _).alloc _⟩
  all_goals (clear hc'; simp at *; unfold useK; (repeat' split) <;> omega)

theorem takes_any (p : Pr) (gb k : Nat) (hk : k < p.types.length) (w : World) (hG : GraphAt w p gb) (_hlt : p.types.length ≤ 1048576) :
    Calls Try.prog 171 #[.pointer (some ⟨gb, 0, none⟩), .int .i64 k] w fun e w' => e = .returned (.bool (p.types[k] == 2 || p.types[k] == 4)) ∧ w = w' := by
  obtain ⟨L, a3, n3, a4, n4, al, cl, _, d0, d1, d2, hr1, _, _⟩ := hG
  obtain ⟨b, off, rfl, _, hc⟩ := hr1.at hk
  obtain ⟨t, et⟩ : ∃ t, p.types[k] = t := ⟨_, rfl⟩
  rw [et] at hc ⊢
  clear et hr1
  go_enter Try.func171, Try.ntmps171
  go_wp2
  all_goals go_ret
  all_goals exact ⟨ret_bool (by simp_all), rfl⟩
theorem isVar_any (p : Pr) (gb : Nat) (v : Int) (w : World) (hG : GraphAt w p gb) (hlt : p.types.length ≤ 1048576) :
    Calls Try.prog 72 #[.pointer (some ⟨gb, 0, none⟩), .int .i64 v] w fun e w' => e = .returned (.bool (within v 0 ((p.types.length : Int) - 1))) ∧ w = w' := by
  obtain ⟨L, a3, n3, a4, n4, al, cl, _, d0, d1, d2, hr1, _, _⟩ := hG
  go_enter Try.func72, Try.ntmps72
  go_wp2_with (go_at_call 82; refine (within_any _ _ _ _).mono ?_; rintro e w' ⟨rfl, rfl⟩)
  go_ret
  exact ⟨rfl, rfl⟩
set_option maxHeartbeats 1000000 in
theorem use_any (p : Pr) (gb k : Nat) (op x y n : Int) (nv : Value) (hk : k < p.types.length) (w : World) (hG : GraphAt w p gb) (hlt : p.types.length ≤ 1048576) :
    Calls Try.prog 161 #[.pointer (some ⟨gb, 0, none⟩), .agg #[.int .i64 op, .int .i64 x, .int .i64 y, .int .i64 n, nv], .int .i64 k] w fun e w' => e = .returned (.int .i64 (useK p.types[k] op x y k)) ∧ Gr w w' none := by
  have HT := fun o => takes_any p gb k hk (w.alloc o) (hG.gr ((Gr.refl _ _).alloc _)) hlt
  clear hG
  revert HT
  generalize p.types[k] = t
  intro HT
  have H := Lib.hid HT
  clear HT
  go_enter Try.func161, Try.ntmps161
  go_wp2_with (go_at_call 171; refine (H.out _).mono ?_; rintro e w' ⟨rfl, rfl⟩)
  all_goals go_ret
  all_goals refine ⟨ret_int ?_, (Gr.refl _ _).alloc _⟩
  all_goals (clear H; simp at *; unfold useK; (repeat' split) <;> omega)

/-- Whether there are such a point and such a variable. -/
def hasPoint (p : Pr) (a v : Int) : Bool := decide (0 ≤ a) && decide (a < (ptsOf p).length) && decide (0 ≤ v) && decide (v < p.types.length)
set_option maxHeartbeats 1000000 in
theorem l3Point_any (p : Pr) (a v : Int) (at' ab : Option Addr) (ct cb : Nat) (w : World) (hT : InAt w Any p.types at') (hB : SlAt w Any p.body ab) (hs : p.types.length ≤ 1048576) (hc : St.count p.body ≤ 1048576) :
    Calls Try.prog 106 #[.agg #[.slice at' p.types.length ct, .slice ab p.body.length cb], .int .i64 a, .int .i64 v] w fun e w' => e = .returned (.bool (hasPoint p a v)) ∧ Gr w w' none := by
  have hlc := count_length p.body
  have hg1 : ∀ o, Gr w (w.alloc o) none := fun o => (Gr.refl _ _).alloc _
  go_enter Try.func106, Try.ntmps106
  go_wp2_with fail
  refine (validS_any p at' ab ct cb _ (hT.gr0 (hg1 _)) (hB.gr0 (hg1 _)) hs hc (by omega)).mono ?_
  rw [valid_same]
  rintro e w1 ⟨rfl, hg⟩
  have hG1 : Gr w w1 none := (hg1 _).trans0 hg
  have q0 : w1.cell? ⟨w.heap.size, 0, none⟩ = some (.slice at' p.types.length ct) := hg.cell (p := ⟨w.heap.size, 0, none⟩) (cell?_new2 _ _).1 (by simp)
  have q1 : w1.cell? ⟨w.heap.size, 1, none⟩ = some (.slice ab p.body.length cb) := hg.cell (p := ⟨w.heap.size, 1, none⟩) (cell?_new2 _ _).2 (by simp)
  clear hg
  by_cases ha : ¬ 0 ≤ a
  · have HP := Lib.hid (show hasPoint p a v = false by unfold hasPoint; simp; omega)
    cases hv : validP p with
    | false =>
      go_wp2_with fail
      go_ret
      exact ⟨ret_bool HP.out.symm, hG1⟩
    | true =>
      clear hv
      go_wp2_with fail
      go_ret
      exact ⟨ret_bool HP.out.symm, hG1⟩
  cases hv : validP p with
  | false =>
    have HP := Lib.hid (show hasPoint p a v = false by unfold hasPoint ptsOf; rw [hv]; simp; omega)
    clear hv
    go_wp2_with fail
    go_ret
    exact ⟨ret_bool HP.out.symm, hG1⟩
  | true =>
    have hcnt := valid_count hv
    have HV := Lib.hid hv
    clear hv
    go_wp2_with fail
    refine (l2Points_any p at' ab ct cb _ (hB.gr0 hG1) (by omega) (by unfold maxLen; omega)).mono ?_
    rintro e w2 ⟨M, am, c, hM, rfl, hown, hg2⟩
    replace q0 := hg2.cell q0 (by simp)
    replace q1 := hg2.cell q1 (by simp)
    have hp : ptsOf p = M := by rw [hM, ptsOf, if_pos HV.out]
    have hml : M.length ≤ 100 := by have := pts_le p; rw [hM]; omega
    have hP : hasPoint p a v = (decide (0 ≤ a) && decide (a < M.length) && decide (0 ≤ v) && decide (v < p.types.length)) := by unfold hasPoint; rw [hp]
    have HP := Lib.hid hP
    clear hM hp hP hown
    have ha0 : 0 ≤ a := by omega
    by_cases h1 : a < M.length
    · by_cases h2 : 0 ≤ v
      · by_cases h3 : v < p.types.length
        · go_wp2_with fail
          go_ret
          exact ⟨ret_bool (by rw [HP.out]; simp [ha0, h1, h2, h3]), hG1.trans0 hg2⟩
        · have hF := Lib.hid (show decide (v < p.types.length) = false by simp; omega)
          go_wp2_with fail
          go_ret
          exact ⟨ret_bool (by rw [HP.out, hF.out]; simp), hG1.trans0 hg2⟩
      · have hF := Lib.hid (show decide (0 ≤ v) = false by simp; omega)
        go_wp2_with fail
        go_ret
        exact ⟨ret_bool (by rw [HP.out, hF.out]; simp), hG1.trans0 hg2⟩
    · have hF := Lib.hid (show decide (a < (M.length : Int)) = false by simp; omega)
      go_wp2_with fail
      go_ret
      exact ⟨ret_bool (by rw [HP.out, hF.out]; simp), hG1.trans0 hg2⟩

/-- What UseOf says. -/
def useOf (p : Pr) (a v : Int) : Int := if hasPoint p a v = true then useK (p.types.getD v.toNat 0) ((ptsOf p).getD a.toNat ⟨0, 0, 0, 0, []⟩).op ((ptsOf p).getD a.toNat ⟨0, 0, 0, 0, []⟩).x ((ptsOf p).getD a.toNat ⟨0, 0, 0, 0, []⟩).y v else 0
theorem useOf_in {p : Pr} {k j : Nat} {L : List Pt} (hL : L = ptsOf p) (hk : k < L.length) (hj : j < p.types.length) {q : Pt} (hq : L[k] = q) : useOf p k j = useK p.types[j] q.op q.x q.y j := by
  subst hL hq
  unfold useOf
  rw [if_pos (by unfold hasPoint; simp; omega)]
  simp [List.getD, hk, hj]
theorem useOf_out {p : Pr} {a v : Int} (h : hasPoint p a v = false) : useOf p a v = 0 := by
  unfold useOf; rw [h]; rfl
end Go.Proofs.Ytdnhinkjmjpnnaa

namespace Go.Proofs.Ytdnhinkjmjpnnaa

open Go.RowKit

end Go.Proofs.Ytdnhinkjmjpnnaa

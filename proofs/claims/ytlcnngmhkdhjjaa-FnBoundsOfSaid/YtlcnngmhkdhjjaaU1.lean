/- How a point uses a variable: walks of UseOf, in the program and in the reference. -/
import Derived.Test.YtlcnngmhkdhjjaaS1

import Derived.Deep.RegionWith

import Derived.Deep.DeepCutAuto

namespace Go.Proofs.Ytlcnngmhkdhjjaa

open Go.RowKit

/-- How a point with the given op, x and y uses the variable v of type t. -/
def useK (t op x y v : Int) : Int :=
  if op = 3 then (if y = v then (if t = 2 ∨ t = 4 then 2 else 1) else 0)
  else if op = 4 ∨ op = 5 ∨ op = 6 then (if y = v then 3 else 0)
  else if op = 7 then (if x = v then 3 else if y = v then 1 else 0)
  else if op = 8 then (if x = v then 2 else 0) else 0

theorem takes_any (p : Pr) (gb k : Nat) (hk : k < p.types.length) (w : World) (hG : GraphAt w p gb) (_hlt : p.types.length ≤ 1048576) :
    Calls Try.prog 124 #[.pointer (some ⟨gb, 0, none⟩), .int .i64 k] w fun e w' => e = .returned (.bool (p.types[k] == 2 || p.types[k] == 4)) ∧ w = w' := by
  obtain ⟨L, a3, n3, a4, n4, al, cl, _, d0, d1, d2, hr1, _, _⟩ := hG
  obtain ⟨b, off, rfl, _, hc⟩ := hr1.at hk
  obtain ⟨t, et⟩ : ∃ t, p.types[k] = t := ⟨_, rfl⟩
  rw [et] at hc ⊢
  clear et hr1
  go_enter Try.func124, Try.ntmps124
  go_wp2
  all_goals go_ret
  all_goals exact ⟨ret_bool (by simp_all), rfl⟩
theorem isVar_any (p : Pr) (gb : Nat) (v : Int) (w : World) (hG : GraphAt w p gb) (hlt : p.types.length ≤ 1048576) :
    Calls Try.prog 72 #[.pointer (some ⟨gb, 0, none⟩), .int .i64 v] w fun e w' => e = .returned (.bool (within v 0 ((p.types.length : Int) - 1))) ∧ w = w' := by
  obtain ⟨L, a3, n3, a4, n4, al, cl, _, d0, d1, d2, hr1, _, _⟩ := hG
  go_enter Try.func72, Try.ntmps72
  go_wp2_with (go_at_call 87; refine (within_any _ _ _ _).mono ?_; rintro e w' ⟨rfl, rfl⟩)
  go_ret
  exact ⟨rfl, rfl⟩
set_option maxHeartbeats 1000000 in
theorem use_any (p : Pr) (gb k : Nat) (op x y n : Int) (nv : Value) (hk : k < p.types.length) (w : World) (hG : GraphAt w p gb) (hlt : p.types.length ≤ 1048576) :
    Calls Try.prog 73 #[.pointer (some ⟨gb, 0, none⟩), .agg #[.int .i64 op, .int .i64 x, .int .i64 y, .int .i64 n, nv], .int .i64 k] w fun e w' => e = .returned (.int .i64 (useK p.types[k] op x y k)) ∧ Gr w w' none := by
  have HT := fun o => takes_any p gb k hk (w.alloc o) (hG.gr ((Gr.refl _ _).alloc _)) hlt
  clear hG
  revert HT
  generalize p.types[k] = t
  intro HT
  have H := Lib.hid HT
  clear HT
  go_enter Try.func73, Try.ntmps73
  go_wp2_with (go_at_call 124; refine (H.out _).mono ?_; rintro e w' ⟨rfl, rfl⟩)
  all_goals go_ret
  all_goals refine ⟨ret_int ?_, (Gr.refl _ _).alloc _⟩
  all_goals (clear H; simp at *; unfold useK; (repeat' split) <;> omega)

/-- Whether there are such a point and such a variable. -/
def hasPoint (p : Pr) (a v : Int) : Bool := decide (0 ≤ a) && decide (a < (ptsOf p).length) && decide (0 ≤ v) && decide (v < p.types.length)
/-- What UseOf says. -/
def useOf (p : Pr) (a v : Int) : Int := if hasPoint p a v = true then useK (p.types.getD v.toNat 0) ((ptsOf p).getD a.toNat ⟨0, 0, 0, 0, []⟩).op ((ptsOf p).getD a.toNat ⟨0, 0, 0, 0, []⟩).x ((ptsOf p).getD a.toNat ⟨0, 0, 0, 0, []⟩).y v else 0
theorem useOf_in {p : Pr} {k j : Nat} {L : List Pt} (hL : L = ptsOf p) (hk : k < L.length) (hj : j < p.types.length) {q : Pt} (hq : L[k] = q) : useOf p k j = useK p.types[j] q.op q.x q.y j := by
  subst hL hq
  unfold useOf
  rw [if_pos (by unfold hasPoint; simp; omega)]
  simp [List.getD, hk, hj]
theorem useOf_out {p : Pr} {a v : Int} (h : hasPoint p a v = false) : useOf p a v = 0 := by
  unfold useOf; rw [h]; rfl
end Go.Proofs.Ytlcnngmhkdhjjaa

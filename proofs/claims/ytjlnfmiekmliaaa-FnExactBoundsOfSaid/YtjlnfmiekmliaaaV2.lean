/- Walks: a simple statement, in the program's own check. -/
import Derived.Test.YtjlnfmiekmliaaaV1
namespace Go.Proofs.Ytjlnfmiekmliaaa
open Go.RowKit

theorem isHolder_any (t : Int) (w : World) :
    Calls Try.prog 116 #[.int .i64 t] w fun e w' => e = .returned (.bool (t == 2 || (t == 3 || t == 4))) ∧ w = w' := by
  go_enter Try.func116, Try.ntmps116
  go_wp2
  all_goals go_ret
  · exact ⟨ret_bool (by simp [*]), rfl⟩
  · exact ⟨ret_bool (by simp [*]), rfl⟩
  · rename_i g1 g2; exact ⟨ret_bool (by rw [show (t == 2) = false from by simpa using g1, show (t == 3) = false from by simpa using g2]; rfl), rfl⟩
theorem isBranch_any (t : Int) (w : World) :
    Calls Try.prog 112 #[.int .i64 t] w fun e w' => e = .returned (.bool (t == 9 || t == 10)) ∧ w = w' := by
  go_enter Try.func112, Try.ntmps112
  go_wp2
  all_goals go_ret
  all_goals exact ⟨ret_bool (by first | rfl | simp [*]), rfl⟩

/-- The type of a variable, 0 for none. -/
def tyOf (l : List Int) (v : Int) : Int := if 0 ≤ v ∧ v < l.length then l[v.toNat]?.getD 0 else 0
set_option maxHeartbeats 400000 in
theorem typeOf_any (l : List Int) (v : Int) (a : Option Addr) (c : Nat) (w : World) (h : InAt w Any l a) (hl : l.length ≤ 1048576) :
    Calls Try.prog 115 #[.slice a l.length c, .int .i64 v] w fun e w' => e = .returned (.int .i64 (tyOf l v)) ∧ w = w' := by
  by_cases hv : 0 ≤ v ∧ v < l.length
  · obtain ⟨h0, h1⟩ := hv
    obtain ⟨k, rfl⟩ := Int.eq_ofNat_of_zero_le h0
    have hk : k < l.length := by omega
    obtain ⟨b, off, rfl, _, hc⟩ := h.at hk
    have hw : within (k : Int) 0 ((l.length : Int) - 1) = true := by simp [within]; omega
    have HW := Lib.hid hw
    clear hw
    go_enter Try.func115, Try.ntmps115
    go_wp2_with (go_at_call 91; refine (within_any _ _ _ _).mono ?_; rintro e w' ⟨rfl, rfl⟩; have hw := HW.out)
    go_ret
    exact ⟨by simp [tyOf, hk], rfl⟩
  · have hw : within v 0 ((l.length : Int) - 1) = false := by simp [within]; omega
    have HW := Lib.hid hw
    have HV := Lib.hid hv
    clear hw hv
    go_enter Try.func115, Try.ntmps115
    go_wp2_with (go_at_call 91; refine (within_any _ _ _ _).mono ?_; rintro e w' ⟨rfl, rfl⟩; have hw := HW.out)
    go_ret
    exact ⟨ret_int (by rw [tyOf, if_neg HV.out]), rfl⟩

def simpleOk (types : List Int) (op X Y N : Int) (nt ne : Nat) : Bool :=
  let x := tyOf types X; let y := tyOf types Y
  let number := op == 1 || op == 2
  let two := !number && op != 8
  if number && !within N 0 9 || !number && N != 0 || !two && Y != 0 || decide (0 < (nt : Int)) || decide (0 < (ne : Int)) then false
  else if op == 1 then x == 1
  else if op == 2 || op == 8 then x == 2
  else if op == 3 then x != 0 && x == y && X != Y
  else if op == 4 then x == 3 && (y == 2 || (y == 3 || y == 4)) && X != Y
  else if op == 5 then x == 4 && (y == 2 || y == 4) && X != Y
  else if op == 6 then x == 1 && (y == 2 || (y == 3 || y == 4))
  else if op == 7 then (x == 2 || x == 4) && y == 1
  else false

set_option maxRecDepth 100000 in
set_option maxHeartbeats 4000000 in
theorem simpleOk_any (l : List Int) (op X Y N : Int) (at' ae : Option Addr) (nt ct ne ce : Nat) (a : Option Addr) (c : Nat) (w : World) (h : InAt w Any l a) (hl : l.length ≤ 1048576) :
    Calls Try.prog 113 #[.slice a l.length c, .agg #[.int .i64 op, .int .i64 X, .int .i64 Y, .int .i64 N, .slice at' nt ct, .slice ae ne ce]] w
      fun e w' => e = .returned (.bool (simpleOk l op X Y N nt ne)) ∧ Gr w w' none := by
  go_enter Try.func113, Try.ntmps113
  go_wp2_with fail
  go_quiet ((go_at_call 115; refine Calls.quiet_of_same ((typeOf_any l _ _ _ _ ?_ hl).mono fun _ _ q => ⟨q.1, q.2.symm⟩); exact h.gr0 (((Gr.refl _ _).alloc _).drewN _)))
  go_wp2_with (first | (go_at_call 91; refine (within_any _ _ _ _).mono ?_; rintro e w' ⟨rfl, rfl⟩) | (go_at_call 116; refine (isHolder_any _ _).mono ?_; rintro e w' ⟨rfl, rfl⟩))
  all_goals go_ret
  all_goals exact ⟨ret_bool (by first | rfl | (simp [simpleOk, *]; done) | (simp [simpleOk, *]; intros; simp_all; done) | (simp [simpleOk, *]; omega)), ((Gr.refl _ _).alloc _).drewN _⟩

/-! ### The same, in the reference -/
theorem l1Type_any (l : List Int) (v : Int) (a : Option Addr) (c : Nat) (w : World) (h : InAt w Any l a) :
    Calls Try.prog 114 #[.slice a l.length c, .int .i64 v] w fun e w' => e = .returned (.int .i64 (tyOf l v)) ∧ w = w' := by
  by_cases hv : 0 ≤ v ∧ v < l.length
  · obtain ⟨h0, h1⟩ := hv
    obtain ⟨k, rfl⟩ := Int.eq_ofNat_of_zero_le h0
    have hk : k < l.length := by omega
    obtain ⟨b, off, rfl, _, hc⟩ := h.at hk
    go_enter Try.func114, Try.ntmps114
    go_wp2
    go_ret
    exact ⟨ret_int (by simp [tyOf, hk]), rfl⟩
  · have HV := Lib.hid hv
    have hv' : v < 0 ∨ l.length ≤ v := by omega
    clear hv
    rcases hv' with hv' | hv'
    all_goals
      go_enter Try.func114, Try.ntmps114
      go_wp2
      all_goals go_ret
      all_goals exact ⟨ret_int (by rw [tyOf, if_neg HV.out]), rfl⟩

def simpleS (l : List Int) (op X Y N : Int) : Bool :=
  let x := tyOf l X; let y := tyOf l Y
  let number := decide (0 ≤ N) && decide (N ≤ 9)
  if op != 1 && (op != 2 && N != 0) then false
  else if op == 1 then x == 1 && (Y == 0 && number)
  else if op == 2 then x == 2 && (Y == 0 && number)
  else if op == 3 then x == y && (decide (0 < x) && X != Y)
  else if op == 4 then x == 3 && (decide (2 ≤ y) && X != Y)
  else if op == 5 then x == 4 && ((y == 2 || y == 4) && X != Y)
  else if op == 6 then x == 1 && decide (2 ≤ y)
  else if op == 7 then (x == 2 || x == 4) && y == 1
  else if op == 8 then x == 2 && Y == 0
  else false
set_option maxRecDepth 100000 in
set_option maxHeartbeats 4000000 in
theorem l1Simple_any (l : List Int) (op X Y N : Int) (at' ae : Option Addr) (nt ct ne ce : Nat) (a : Option Addr) (c : Nat) (w : World) (h : InAt w Any l a) :
    Calls Try.prog 110 #[.slice a l.length c, .agg #[.int .i64 op, .int .i64 X, .int .i64 Y, .int .i64 N, .slice at' nt ct, .slice ae ne ce]] w
      fun e w' => e = .returned (.bool (simpleS l op X Y N)) ∧ Gr w w' none := by
  go_enter Try.func110, Try.ntmps110
  go_wp2_with (go_at_call 114; refine (l1Type_any l _ _ _ _ ?_).mono ?_; (exact h.gr0 ((Gr.refl _ _).alloc _)); rintro e w' ⟨rfl, rfl⟩)
  all_goals go_ret
  all_goals refine ⟨ret_bool ?_, ((Gr.refl _ _).alloc _)⟩
  all_goals first | rfl | (simp [simpleS, *]; done) | (simp [simpleS, *]; intros; simp_all; done) | (simp [simpleS, *]; omega)
end Go.Proofs.Ytjlnfmiekmliaaa

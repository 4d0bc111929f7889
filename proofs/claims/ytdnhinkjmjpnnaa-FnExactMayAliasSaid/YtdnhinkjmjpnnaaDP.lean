/- Plain laws: what the simple points of a valid program say of their variables. -/
import Derived.Test.YtdnhinkjmjpnnaaDB

import Derived.Test.YtdnhinkjmjpnnaaN7

import Derived.Test.YtdnhinkjmjpnnaaZ3

namespace Go.Proofs.Ytdnhinkjmjpnnaa

open Go.RowKit

theorem pt_ok {p : Pr} (hv : validP p = true) {k : Nat} (hk : k < (pts p).length) : ((pts p)[k]).op = 9 ∨ ((pts p)[k]).op = 10 ∨ ((pts p)[k]).op = 11 ∨ simpleS p.types ((pts p)[k]).op ((pts p)[k]).x ((pts p)[k]).y ((pts p)[k]).n = true :=
  pts_simple hv _ (List.getElem_mem hk)
theorem simple_x {types : List Int} {op x y n : Int} (h : simpleS types op x y n = true) : 1 ≤ op ∧ op ≤ 8 ∧ ∃ i : Nat, x = i ∧ i < types.length := by
  have ho : (op = 1 ∨ op = 2 ∨ op = 3 ∨ op = 4 ∨ op = 5 ∨ op = 6 ∨ op = 7 ∨ op = 8) ∧ tyOf types x ≠ 0 := by
    unfold simpleS at h
    by_cases h1 : op = 1
    · subst h1; simp at h; omega
    by_cases h2 : op = 2
    · subst h2; simp at h; omega
    by_cases h3 : op = 3
    · subst h3; simp at h; omega
    by_cases h4 : op = 4
    · subst h4; simp at h; omega
    by_cases h5 : op = 5
    · subst h5; simp at h; omega
    by_cases h6 : op = 6
    · subst h6; simp at h; omega
    by_cases h7 : op = 7
    · subst h7; simp at h; omega
    by_cases h8 : op = 8
    · subst h8; simp at h; omega
    · simp [h1, h2, h3, h4, h5, h6, h7, h8] at h
  have hx := tyOf_in ho.2
  exact ⟨by omega, by omega, x.toNat, by omega, by omega⟩
theorem simple_n {types : List Int} {x y n : Int} (h : simpleS types 1 x y n = true) : 0 ≤ n ∧ n ≤ 9 := by
  unfold simpleS at h; simp at h; omega
/-- A point sets a variable, or none. -/
theorem set_in {p : Pr} (hv : validP p = true) {k : Nat} (hk : k < (pts p).length) : -1 ≤ setOf ((pts p)[k]).op ((pts p)[k]).x ∧ setOf ((pts p)[k]).op ((pts p)[k]).x < p.types.length := by
  have h := pt_ok hv hk
  unfold setOf
  split
  · rename_i ho
    rcases h with h | h | h | h
    · omega
    · omega
    · omega
    · obtain ⟨_, _, i, hx, hi⟩ := simple_x h
      omega
  · omega
theorem pts_pos' (p : Pr) : 0 < (pts p).length := by unfold pts; simp
/-- Pairs of a point and a number below m. -/
def boxL (n m : Nat) : List (Nat × Nat) := (List.range n).flatMap fun i => (List.range m).map fun v => (i, v)
theorem boxL_mem {n m i v : Nat} (hi : i < n) (hv : v < m) : (i, v) ∈ boxL n m := by
  unfold boxL
  rw [List.mem_flatMap]
  exact ⟨i, List.mem_range.2 hi, List.mem_map.2 ⟨v, List.mem_range.2 hv, rfl⟩⟩
/-- Two words that part have a bit that parts them. -/
theorem bit_ne {a b m : Nat} (ha : a < 2 ^ m) (hb : b < 2 ^ m) (h : a ≠ b) : ∃ v, v < m ∧ a.testBit v ≠ b.testBit v := by
  rcases Classical.em (∃ v, a.testBit v ≠ b.testBit v) with ⟨v, hv⟩ | hn
  · refine ⟨v, ?_, hv⟩
    rcases Nat.lt_or_ge v m with h1 | h1
    · exact h1
    · exact absurd (by rw [Nat.testBit_lt_two_pow (Nat.lt_of_lt_of_le ha (Nat.pow_le_pow_right (by omega) h1)), Nat.testBit_lt_two_pow (Nat.lt_of_lt_of_le hb (Nat.pow_le_pow_right (by omega) h1))]) hv
  · exact absurd (Nat.eq_of_testBit_eq fun v => Classical.byContradiction fun hv => hn ⟨v, hv⟩) h
/-- Words as a table. -/
def tb (O : Nat → Nat) : Nat → Nat → Bool := fun i v => (O i).testBit v
theorem tb_upd (O : Nat → Nat) (a W : Nat) : tb (updW O a W) = updF (tb O) a (fun v => W.testBit v) := by
  funext i v
  unfold tb updW updF
  split <;> rfl
theorem WRow.upd {w : World} {g n : Nat} {O : Nat → Nat} (h : WRow w g n O) (a W : Nat) : WRow (w.setCell ⟨g, a, none⟩ (.int .i64 (W : Nat))) g n (updW O a W) := by
  have := IRow.set h a (W : Int)
  refine IRow.congr this fun j _ => ?_
  unfold updW
  split <;> rfl
/-- What a point uses, and what it does not set. -/
def usL (T : List Int) (L : List Pt) (i v : Nat) : Bool := usesB T (ptAt L i).op (ptAt L i).x (ptAt L i).y v
def nsL (L : List Pt) (i v : Nat) : Bool := !setsB (ptAt L i).op (ptAt L i).x v
theorem useK_in (t op x y v : Int) : (useK t op x y v != 0) = decide (useK t op x y v ∈ ([1, 2, 3] : List Int)) := by
  have : useK t op x y v = 0 ∨ useK t op x y v = 1 ∨ useK t op x y v = 2 ∨ useK t op x y v = 3 := by
    unfold useK; (repeat' split) <;> simp
  rcases this with h | h | h | h <;> rw [h] <;> rfl
theorem use_ne {T : List Int} {op x y : Int} {v : Nat} (h : v < T.length) : (useK T[v] op x y v != 0) = usesB T op x y v := by
  unfold usesB; rw [useB_at h, useK_in]
theorem take_eq {T : List Int} {op x y : Int} {v : Nat} (h : v < T.length) : (useK T[v] op x y v == 2) = takesB T op x y v := by
  unfold takesB; rw [useB_at h, Bool.eq_iff_iff]; simp
end Go.Proofs.Ytdnhinkjmjpnnaa

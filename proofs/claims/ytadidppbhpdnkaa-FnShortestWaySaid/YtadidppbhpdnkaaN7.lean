/- BoundsOf, of the program and of the reference: both hand back the same list. -/
import Derived.Test.YtadidppbhpdnkaaN6

namespace Go.Proofs.Ytadidppbhpdnkaa

open Go.RowKit

/-! ### The simple points of a valid program are right -/

def PtsOk (types : List Int) (l : List Pt) : Prop := ∀ q ∈ l, q.op = 9 ∨ q.op = 10 ∨ q.op = 11 ∨ simpleS types q.op q.x q.y q.n = true
theorem PtsOk.app {types : List Int} {l l' : List Pt} (h : PtsOk types l) (h' : PtsOk types l') : PtsOk types (l ++ l') := by
  intro q hq
  rcases List.mem_append.1 hq with hq | hq
  · exact h q hq
  · exact h' q hq
theorem PtsOk.one {types : List Int} {q : Pt} (h : q.op = 9 ∨ q.op = 10 ∨ q.op = 11 ∨ simpleS types q.op q.x q.y q.n = true) : PtsOk types [q] := by
  intro r hr; simp at hr; subst hr; exact h
mutual
theorem ptsS_ok (types : List Int) : ∀ (s : St) (d : Int) (a : Nat), stS types s d = true → PtsOk types (ptsS s a)
  | .mk op x y n t e, d, a, h => by
    simp only [stS] at h
    simp only [ptsS]
    split at h
    · rename_i hop
      have h9 : ¬ (op == 9) = true := by simp at hop ⊢; exact hop.1
      have h10 : ¬ (op == 10) = true := by simp at hop ⊢; exact hop.2
      rw [if_neg h9, if_neg h10]
      simp only [Bool.and_eq_true] at h
      exact PtsOk.one (.inr (.inr (.inr h.2.2)))
    · split at h
      · simp at h
      · simp only [Bool.and_eq_true] at h
        have h1 := ptsL_ok types t (d - 1)
        have h2 := ptsL_ok types e (d - 1)
        split
        · exact (((PtsOk.one (.inl rfl)).app (h1 _ h.1)).app (PtsOk.one (.inr (.inl rfl)))).app (h2 _ h.2)
        · split
          · exact ((PtsOk.one (.inr (.inl rfl))).app (h1 _ h.1)).app (PtsOk.one (.inr (.inl rfl)))
          · rename_i h3 h4 h5 h6
            exfalso
            simp at h3 h5 h6
            exact h6 (h3 h5)
theorem ptsL_ok (types : List Int) : ∀ (l : List St) (d : Int) (a : Nat), bodyS types l d = true → PtsOk types (ptsL l a)
  | [], d, a, h => by intro q hq; simp [ptsL] at hq
  | s :: r, d, a, h => by
    simp only [bodyS, Bool.and_eq_true] at h
    simp only [ptsL]
    exact (ptsS_ok types s d a h.1).app (ptsL_ok types r d _ h.2)
end
theorem pts_simple {p : Pr} (h : validP p = true) : PtsOk p.types (pts p) := by
  rw [← valid_same] at h
  unfold validS at h
  simp only [Bool.and_eq_true] at h
  exact (ptsL_ok p.types p.body 4 0 h.2.1).app (PtsOk.one (.inr (.inr (.inl rfl))))
theorem tyOf_in {l : List Int} {v : Int} (h : tyOf l v ≠ 0) : 0 ≤ v ∧ v < l.length := by
  unfold tyOf at h
  split at h
  · assumption
  · exact absurd rfl h
theorem tyOf_get {l : List Int} {j : Nat} (h : j < l.length) : tyOf l j = l[j] := by
  unfold tyOf
  rw [if_pos ⟨by omega, by omega⟩]
  simp [h]
/-- What a point of op 3, 4, 5 or 6 says of its variables. -/
theorem simple_xy {types : List Int} {op x y n : Int} (h : simpleS types op x y n = true) (ho : op = 3 ∨ op = 4 ∨ op = 5 ∨ op = 6) : ∃ i j : Nat, x = i ∧ y = j ∧ i < types.length ∧ j < types.length := by
  have hxy : tyOf types x ≠ 0 ∧ tyOf types y ≠ 0 := by
    unfold simpleS at h
    rcases ho with rfl | rfl | rfl | rfl
    · simp at h; omega
    · simp at h; omega
    · simp at h; omega
    · simp at h; omega
  have hx := tyOf_in hxy.1
  have hy := tyOf_in hxy.2
  exact ⟨x.toNat, y.toNat, by omega, by omega, by omega, by omega⟩

/-! ### Bounds -/

def isRef (t : Int) : Bool := t == 3 || t == 4
theorem implIsRef_any (t : Int) (w : World) : Calls Try.prog 111 #[.int .i64 t] w fun e w' => e = .returned (.bool (isRef t)) ∧ w = w' := by
  go_enter Try.func111, Try.ntmps111
  go_wp2
  all_goals go_ret
  all_goals exact ⟨ret_bool (by first | rfl | (simp [isRef, *]; done) | (simp_all [isRef]; done)), rfl⟩
def isLn (q : Pt) : Bool := q.op == 4 || q.op == 5
/-- The bounds of a point. -/
def bound1 (q : Pt) (k : Nat) : List (List Value) := if isLn q = true then [[.int .i64 q.x, .int .i64 k, .int .i64 (-1)]] else []
def bound2 (types : List Int) (q : Pt) : List (List Value) := if ((isLn q || q.op == 3) && isRef (tyOf types q.y)) = true then [[.int .i64 q.x, .int .i64 (-1), .int .i64 q.y]] else []
def boundRow (types : List Int) (L : List Pt) (k : Nat) : List (List Value) := bound1 (ptAt L k) k ++ bound2 types (ptAt L k)
def bounds (p : Pr) : List (List Value) := collR (boundRow p.types (pts p)) (pts p).length
/-- What BoundsOf says. -/
def boundsOf (p : Pr) : List (List Value) := if validP p = true then bounds p else []
theorem boundRow_len (types : List Int) (L : List Pt) (j : Nat) : (boundRow types L j).length ≤ 2 := by
  unfold boundRow bound1 bound2; split <;> split <;> simp
theorem pts_len {p : Pr} (h : validP p = true) : (pts p).length ≤ 61 := by
  have := ptsOf_le p
  unfold ptsOf at this
  rw [if_pos h] at this
  exact this
theorem boundsOf_len (p : Pr) : (boundsOf p).length ≤ 1048576 := by
  unfold boundsOf
  split
  · rename_i h
    have := collR_len (boundRow_len p.types (pts p)) (pts p).length
    have := pts_len h
    unfold bounds
    omega
  · simp
theorem boundRow_is (types : List Int) (L : List Pt) (j : Nat) : ∀ r ∈ boundRow types L j, ∃ (x0 : Int) (x1 : Int) (x2 : Int), r = [.int .i64 x0, .int .i64 x1, .int .i64 x2] := by
  intro r hr
  rcases List.mem_append.1 hr with hr | hr
  · unfold bound1 at hr
    split at hr
    · simp at hr; exact ⟨_, _, _, hr⟩
    · simp at hr
  · unfold bound2 at hr
    split at hr
    · simp at hr; exact ⟨_, _, _, hr⟩
    · simp at hr
theorem row_int3 (a b c : Int) : ∀ u ∈ [Value.int .i64 a, .int .i64 b, .int .i64 c], u.oneCell' = true := by
  intro u hu; simp at hu; rcases hu with rfl | rfl | rfl <;> rfl
/-- The variable from which a loan or a move is made. -/
theorem ref_y {types : List Int} {q : Pt} (h : q.op = 9 ∨ q.op = 10 ∨ q.op = 11 ∨ simpleS types q.op q.x q.y q.n = true) (ho : isLn q = true ∨ q.op = 3) : ∃ j : Nat, q.y = j ∧ ∃ h : j < types.length, tyOf types q.y = types[j] := by
  have hoo : q.op = 3 ∨ q.op = 4 ∨ q.op = 5 := by
    rcases ho with h | h
    · simp [isLn] at h; omega
    · exact .inl h
  have hs : simpleS types q.op q.x q.y q.n = true := by
    rcases h with h | h | h | h
    · omega
    · omega
    · omega
    · exact h
  obtain ⟨i, j, h1, h2, h3, h4⟩ := simple_xy hs (by omega)
  exact ⟨j, h2, h4, by rw [h2]; exact tyOf_get h4⟩

end Go.Proofs.Ytadidppbhpdnkaa

/- Runs: walks of RunPath, in the program and in the reference: both hand back the same. -/
import Derived.Test.YtadlnjglpigjmaaW2

import Derived.Deep.RegionWith

import Derived.BigQuiet

namespace Go.Proofs.Ytadlnjglpigjmaa

open Go.RowKit

theorem and_one (n : Int) : bits .and .i64 n 1 = n % 2 := by
  have h1 : (BitVec.ofInt 64 1).toNat = 2 ^ 1 - 1 := by decide
  have key : (BitVec.ofInt 64 n &&& BitVec.ofInt 64 1).toNat = (n % ((2 ^ 64 : Nat) : Int)).toNat % 2 ^ 1 := by
    rw [BitVec.toNat_and, BitVec.toNat_ofInt, h1, Nat.and_two_pow_sub_one_eq_mod]
  show IntKind.i64.wrap ((BitVec.ofInt 64 n &&& BitVec.ofInt 64 1).toNat : Nat) = n % 2
  rw [key, IntKind.wrap_i64]
  omega
def lenN : Value → Nat
  | .slice _ n _ => n
  | _ => 0
/-- A run that has come to the point k, with the choices cs left: R are its points so far; T: what it hands back. -/
def RunAt (M : List Pt) (m : Nat) (T : List Nat × Bool) (R : List Nat) (n k : Nat) (cs : List Int) : Prop :=
  R.length = n ∧ k < M.length ∧ ((n ≤ m ∧ (R ++ (runF M (m - n) k cs).1, (runF M (m - n) k cs).2) = T) ∨ (n = m + 1 ∧ (R.take m, false) = T))
theorem RunAt.start {M : List Pt} {m k : Nat} {cs : List Int} (h : k < M.length) : RunAt M m (runF M m k cs) [] 0 k cs := ⟨rfl, h, .inl ⟨Nat.zero_le _, by simp⟩⟩
theorem RunAt.last {M : List Pt} {m : Nat} {T : List Nat × Bool} {R : List Nat} {n k : Nat} {cs : List Int} (h : RunAt M m T R n k cs) (hn : n ≤ m) (ho : (ptAt M k).op = 11) : T = (R ++ [k], true) := by
  obtain ⟨_, _, h3⟩ := h
  rcases h3 with ⟨_, h4⟩ | ⟨h4, _⟩
  · rw [runF_end ho] at h4; exact h4.symm
  · omega
theorem RunAt.full {M : List Pt} {m : Nat} {T : List Nat × Bool} {R : List Nat} {n k : Nat} {cs : List Int} (h : RunAt M m T R n k cs) (hn : ¬ n ≤ m) : T = (R.take m, false) := by
  obtain ⟨_, _, h3⟩ := h
  rcases h3 with ⟨h4, _⟩ | ⟨_, h4⟩
  · exact absurd h4 hn
  · exact h4.symm
theorem RunAt.cut {M : List Pt} {m : Nat} {T : List Nat × Bool} {R : List Nat} {k : Nat} {cs : List Int} (h : RunAt M m T R m k cs) (ho : (ptAt M k).op ≠ 11) : T = (R, false) := by
  obtain ⟨_, _, h3⟩ := h
  rcases h3 with ⟨_, h4⟩ | ⟨h4, _⟩
  · rw [Nat.sub_self, runF_zero ho] at h4; simpa using h4.symm
  · omega
theorem RunAt.step {p : Pr} {m : Nat} {T : List Nat × Bool} {R : List Nat} {n k : Nat} {cs : List Int} (h : RunAt (ptsOf p) m T R n k cs) (hv : validP p = true) (hn : n ≤ m) (ho : (ptAt (ptsOf p) k).op ≠ 11) : RunAt (ptsOf p) m T (R ++ [k]) (n + 1) (goOn (ptAt (ptsOf p) k) cs).1 (goOn (ptAt (ptsOf p) k) cs).2 := by
  obtain ⟨h1, h2, h3⟩ := h
  refine ⟨by simp [h1], goOn_lt hv h2 ho cs, ?_⟩
  rcases h3 with ⟨_, h4⟩ | ⟨h4, _⟩
  · by_cases e : n = m
    · subst e
      rw [Nat.sub_self, runF_zero ho] at h4
      refine .inr ⟨rfl, ?_⟩
      rw [← h4, ← h1]
      simp
    · refine .inl ⟨by omega, ?_⟩
      rw [show m - n = (m - (n + 1)) + 1 from by omega, runF_on ho] at h4
      rw [← h4]
      simp
  · omega
theorem goOn_one {q : Pt} {cs : List Int} {x : Nat} (h : q.next.length ≠ 2) (hx : q.next[0]? = some x) : goOn q cs = (x, cs) := by
  unfold goOn
  match hq : q.next, h with
  | [], _ => rw [hq] at hx; simp at hx
  | [a], _ => rw [hq] at hx; simp at hx; simp [hx]
  | a :: b :: c :: r, _ => rw [hq] at hx; simp at hx; simp [hx]
theorem goOn_two {q : Pt} {a b : Nat} (h : q.next = [a, b]) (cs : List Int) : goOn q cs = match cs with | [] => (b, []) | c :: r => (if c % 2 = 0 then a else b, r) := by
  unfold goOn; rw [h]; cases cs <;> rfl
theorem next_two {q : Pt} (h : q.next.length = 2) : ∃ a b, q.next = [a, b] := by
  match hq : q.next, h with
  | [a, b], _ => exact ⟨a, b, rfl⟩

theorem graphOk_nil (p : Pr) : graphOk p [] = validP p := by unfold graphOk; cases validP p <;> rfl
theorem HandI.after' {l : List Int} {w0 w w' : World} {e : Ending} (h : HandI l w e w') (hg : Gr w0 w none) : HandI l w0 e w' := by
  obtain ⟨a, c, he, h1, h2, h3, h4⟩ := h
  exact ⟨a, c, he, h1, fun g hgo => ⟨Nat.le_trans hg.size (h2 g hgo).1, (h2 g hgo).2⟩, h3, hg.trans0 h4⟩
/-- What a run hands back, somewhere. -/
def RunOut (T : List Nat × Bool) (w : World) (e : Ending) (w' : World) : Prop :=
  ∃ (a : Option Addr) (c : Nat), e = .returned (.tuple #[.slice a T.1.length c, .bool T.2]) ∧ InAt w' Any (zs T.1) a ∧ Gr w w' none
end Go.Proofs.Ytadlnjglpigjmaa

/- What the arguments read as: a program out of the form's own reading. -/
import Derived.Test.YtadidppbhpdnkaaH5

import Derived.Deep.Slices

import Derived.Lib.SmallJoins

import Derived.ProofKit

namespace Go.Proofs.Ytadidppbhpdnkaa

open Go.RowKit Go.ChangeShapes Go.WideShapes Go.Deep

section

variable {H : Type} {enc : TypeId × Value → H} {w : World} {spare : Nat → Bool} {held : Bool}

theorem cells3 : Try.prog.cellsOf 3 = 1 := by kernel_rfl
theorem one_of_drop (cs : List Value) (j : Nat) (hj : j < cs.length) : (cs.drop j).take 1 = [cs[j]] := by
  rw [List.drop_eq_getElem_cons hj]; rfl

instance : Inhabited St := ⟨.mk 0 0 0 0 [] []⟩

/-- Ints that came in. -/
theorem open_intS {base fuel : Nat} {v : Value} {x : DataW H × List MemPlace} (h : DataW.trod enc Try.prog w base spare held fuel 23 [v] = some x) :
    ∃ (l : List Int) (a : Option Addr) (c : Nat), v = .slice a l.length c ∧ l.length ≤ maxLen ∧ InAt w Any l a := by
  rcases DataW.trod_slice Try.underlying23 h with ⟨hv, _⟩ | ⟨a, len, cap, elems, rest, n, _, hcs, _, _, hl, hm, _, hel, _⟩
  · simp only [List.cons.injEq, and_true] at hv
    subst hv
    exact ⟨[], none, 0, rfl, by unfold maxLen; simp, by simp [InAt]⟩
  · simp only [List.cons.injEq, and_true] at hcs
    subst hcs
    have hall : ∀ i, i < len → ∃ z : Int, w.cell? (a.add i) = some (.int .i64 z) := by
      intro i hi
      have he := hel i hi
      rw [cells3, Nat.mul_one] at he
      rename_i hle
      have hsome : ∃ y, elems[i]? = some y := ⟨elems[i]'(by omega), List.getElem?_eq_getElem _⟩
      obtain ⟨y, hy⟩ := hsome
      rw [hy] at he
      obtain ⟨cs', h1, h2⟩ := Option.bind_eq_some_iff.1 he
      obtain ⟨_, hcl, hat⟩ := World.cells?_some h1
      obtain ⟨z, hz, _⟩ := DataW.trod_int Try.underlying3 h2
      refine ⟨z, ?_⟩
      have := hat 0 (by omega)
      rw [hz] at this
      simpa [Addr.add] using this
    obtain ⟨f, hf⟩ := choose_lt hall
    refine ⟨(List.range len).map f, some a, cap, by simp, by simp; omega, ?_⟩
    by_cases h0 : len = 0
    · subst h0; simp [InAt]
    · obtain ⟨b, off, sp⟩ := a
      have hsp : sp = none := by have := World.cell?_spot (hf 0 (by omega)); simpa [Addr.add] using this
      subst hsp
      refine InAt.of fun i hi => ⟨trivial, ?_⟩
      have hi' : i < len := by simpa using hi
      have := hf i hi'
      simp only [List.getElem_map, List.getElem_range]
      by_cases e : i = 0
      · subst e; simpa [Addr.add] using this
      · simpa [Addr.add, e] using this

end

end Go.Proofs.Ytadidppbhpdnkaa

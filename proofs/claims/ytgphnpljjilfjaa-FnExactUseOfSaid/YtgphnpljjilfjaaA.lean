/- What the arguments read as: a program out of the form's own reading. -/
import Derived.Test.YtgphnpljjilfjaaH5

import Derived.Deep.Slices

import Derived.Lib.SmallJoins

import Derived.ProofKit

namespace Go.Proofs.Ytgphnpljjilfjaa

open Go.RowKit Go.ChangeShapes Go.WideShapes Go.Deep

section

variable {H : Type} {enc : TypeId × Value → H} {w : World} {spare : Nat → Bool} {held : Bool}

theorem cells98 : Try.prog.cellsOf 88 = 6 := by kernel_rfl
theorem cells3 : Try.prog.cellsOf 3 = 1 := by kernel_rfl
theorem cells23 : Try.prog.cellsOf 23 = 1 := by kernel_rfl

theorem one_of_drop (cs : List Value) (j : Nat) (hj : j < cs.length) : (cs.drop j).take 1 = [cs[j]] := by
  rw [List.drop_eq_getElem_cons hj]; rfl

instance : Inhabited St := ⟨.mk 0 0 0 0 [] []⟩

/-- Ints that came in. -/
theorem open_intS {base fuel : Nat} {v : Value} {x : DataW H × List MemPlace} (h : DataW.trod enc Try.prog w base spare held fuel 22 [v] = some x) :
    ∃ (l : List Int) (a : Option Addr) (c : Nat), v = .slice a l.length c ∧ l.length ≤ maxLen ∧ InAt w Any l a := by
  rcases DataW.trod_slice Try.underlying22 h with ⟨hv, _⟩ | ⟨a, len, cap, elems, rest, n, _, hcs, _, _, hl, hm, _, hel, _⟩
  · simp only [List.cons.injEq, and_true] at hv
    subst hv
    exact ⟨[], none, 0, rfl, by unfold maxLen; simp, by simp [InAt]⟩
  · simp only [List.cons.injEq, and_true] at hcs
    subst hcs
    have hall : ∀ i, i < len → ∃ z : Int, w.cell? (a.add i) = some (.int .i64 z) := by
      intro i hi
      have he := hel i hi
      rw [cells3, Nat.mul_one] at he
      rename_i hle
      have hsome : ∃ y, elems[i]? = some y := ⟨elems[i]'(by omega), List.getElem?_eq_getElem _⟩
      obtain ⟨y, hy⟩ := hsome
      rw [hy] at he
      obtain ⟨cs', h1, h2⟩ := Option.bind_eq_some_iff.1 he
      obtain ⟨_, hcl, hat⟩ := World.cells?_some h1
      obtain ⟨z, hz, _⟩ := DataW.trod_int Try.underlying3 h2
      refine ⟨z, ?_⟩
      have := hat 0 (by omega)
      rw [hz] at this
      simpa [Addr.add] using this
    obtain ⟨f, hf⟩ := choose_lt hall
    refine ⟨(List.range len).map f, some a, cap, by simp, by simp; omega, ?_⟩
    by_cases h0 : len = 0
    · subst h0; simp [InAt]
    · obtain ⟨b, off, sp⟩ := a
      have hsp : sp = none := by have := World.cell?_spot (hf 0 (by omega)); simpa [Addr.add] using this
      subst hsp
      refine InAt.of fun i hi => ⟨trivial, ?_⟩
      have hi' : i < len := by simpa using hi
      have := hf i hi'
      simp only [List.getElem_map, List.getElem_range]
      by_cases e : i = 0
      · subst e; simpa [Addr.add] using this
      · simpa [Addr.add, e] using this

/-- Statements that came in. -/
theorem open_stmtS : ∀ (fuel base : Nat) (v : Value) (x : DataW H × List MemPlace), DataW.trod enc Try.prog w base spare held fuel 23 [v] = some x →
    ∃ (l : List St) (a : Option Addr) (c : Nat), v = .slice a l.length c ∧ l.length ≤ maxLen ∧ SlAt w Any l a := by
  intro fuel
  induction fuel using Nat.strongRecOn with
  | _ fuel ih =>
  intro base v x h
  rcases DataW.trod_slice Try.underlying23 h with ⟨hv, _⟩ | ⟨a, len, cap, elems, rest, n, hfuel, hcs, _, _, hl, hm, hlen, hel, _⟩
  · simp only [List.cons.injEq, and_true] at hv
    subst hv
    exact ⟨[], none, 0, rfl, by unfold maxLen; simp, by simp [SlAt]⟩
  · simp only [List.cons.injEq, and_true] at hcs
    subst hcs
    have hall : ∀ i, i < len → ∃ s : St, s.thn.length ≤ maxLen ∧ s.els.length ≤ maxLen ∧ ∃ (at' : Option Addr) (ct : Nat) (ae : Option Addr) (ce : Nat),
        w.cell? ((a.add (i * 6)).add 0) = some (.int .i64 s.op) ∧ w.cell? ((a.add (i * 6)).add 1) = some (.int .i64 s.x) ∧ w.cell? ((a.add (i * 6)).add 2) = some (.int .i64 s.y) ∧ w.cell? ((a.add (i * 6)).add 3) = some (.int .i64 s.n) ∧
        w.cell? ((a.add (i * 6)).add 4) = some (.slice at' s.thn.length ct) ∧ w.cell? ((a.add (i * 6)).add 5) = some (.slice ae s.els.length ce) ∧ SlAt w Any s.thn at' ∧ SlAt w Any s.els ae := by
      intro i hi
      have he := hel i hi
      rw [cells98] at he
      have hsome : ∃ y, elems[i]? = some y := ⟨elems[i]'(by omega), List.getElem?_eq_getElem _⟩
      obtain ⟨y, hy⟩ := hsome
      rw [hy] at he
      obtain ⟨cs', h1, h2⟩ := Option.bind_eq_some_iff.1 he
      obtain ⟨_, hcl, hat⟩ := World.cells?_some h1
      obtain ⟨xs, n', hn', _, _, hxl, hg⟩ := DataW.trod_struct Try.underlying88 h2
      have hx : ∀ j, j < 6 → ∃ y, xs[j]? = some y := fun j hj => ⟨xs[j]'(by rw [hxl]; exact hj), List.getElem?_eq_getElem _⟩
      have ints : ∀ j (hj : j < 6), j < 4 → ∃ z : Int, cs'[j]'(by omega) = .int .i64 z := by
        intro j hj hj4
        obtain ⟨y, hy⟩ := hx j hj
        have hf : ∃ f : Field, (#[⟨ "Op", 3, 0, false, "", "", 0⟩, ⟨ "X", 3, 1, false, "", "", 8⟩, ⟨ "Y", 3, 2, false, "", "", 16⟩, ⟨ "N", 3, 3, false, "", "", 24⟩, ⟨ "Then", 23, 4, false, "", "", 32⟩, ⟨ "Else", 23, 5, false, "", "", 56⟩] : Array Field)[j]? = some f ∧ f.type = 3 ∧ f.offset = j := by
          match j, hj4 with
          | 0, _ => exact ⟨_, rfl, rfl, rfl⟩
          | 1, _ => exact ⟨_, rfl, rfl, rfl⟩
          | 2, _ => exact ⟨_, rfl, rfl, rfl⟩
          | 3, _ => exact ⟨_, rfl, rfl, rfl⟩
        obtain ⟨f, hf1, hf2, hf3⟩ := hf
        have := hg j f hf1
        rw [hf2, hf3, cells3, one_of_drop _ _ (by omega), hy] at this
        obtain ⟨z, hz, _⟩ := DataW.trod_int Try.underlying3 this
        exact ⟨z, by simpa using hz⟩
      have subs : ∀ j (hj : j < 6), 4 ≤ j → ∃ (l : List St) (a : Option Addr) (c : Nat), cs'[j]'(by omega) = .slice a l.length c ∧ l.length ≤ maxLen ∧ SlAt w Any l a := by
        intro j hj hj4
        obtain ⟨y, hy⟩ := hx j hj
        have hf : ∃ f : Field, (#[⟨ "Op", 3, 0, false, "", "", 0⟩, ⟨ "X", 3, 1, false, "", "", 8⟩, ⟨ "Y", 3, 2, false, "", "", 16⟩, ⟨ "N", 3, 3, false, "", "", 24⟩, ⟨ "Then", 23, 4, false, "", "", 32⟩, ⟨ "Else", 23, 5, false, "", "", 56⟩] : Array Field)[j]? = some f ∧ f.type = 23 ∧ f.offset = j := by
          match j, hj, hj4 with
          | 4, _, _ => exact ⟨_, rfl, rfl, rfl⟩
          | 5, _, _ => exact ⟨_, rfl, rfl, rfl⟩
        obtain ⟨f, hf1, hf2, hf3⟩ := hf
        have := hg j f hf1
        rw [hf2, hf3, cells23, one_of_drop _ _ (by omega), hy] at this
        exact ih n' (by omega) base _ _ this
      obtain ⟨z0, e0⟩ := ints 0 (by omega) (by omega)
      obtain ⟨z1, e1⟩ := ints 1 (by omega) (by omega)
      obtain ⟨z2, e2⟩ := ints 2 (by omega) (by omega)
      obtain ⟨z3, e3⟩ := ints 3 (by omega) (by omega)
      obtain ⟨l4, a4, c4, e4, m4, r4⟩ := subs 4 (by omega) (by omega)
      obtain ⟨l5, a5, c5, e5, m5, r5⟩ := subs 5 (by omega) (by omega)
      have hc : ∀ j (hj : j < 6), w.cell? ((a.add (i * 6)).add j) = some (cs'[j]'(by omega)) := fun j hj => (hat j hj).trans (List.getElem?_eq_getElem _)
      exact ⟨.mk z0 z1 z2 z3 l4 l5, m4, m5, a4, c4, a5, c5, (hc 0 (by omega)).trans (by rw [e0]; rfl), (hc 1 (by omega)).trans (by rw [e1]; rfl), (hc 2 (by omega)).trans (by rw [e2]; rfl), (hc 3 (by omega)).trans (by rw [e3]; rfl),
        (hc 4 (by omega)).trans (by rw [e4]; rfl), (hc 5 (by omega)).trans (by rw [e5]; rfl), r4, r5⟩
    obtain ⟨f, hf⟩ := choose_lt hall
    refine ⟨(List.range len).map f, some a, cap, by simp, by simp; omega, ?_⟩
    by_cases h0 : len = 0
    · subst h0; simp [SlAt]
    · obtain ⟨b, off, sp⟩ := a
      have hsp : sp = none := by
        obtain ⟨_, _, _, _, _, _, hc, _⟩ := hf 0 (by omega)
        have := World.cell?_spot hc
        simpa [Addr.add] using this
      subst hsp
      refine SlAt.of fun i hi => ?_
      have hi' : i < len := by simpa using hi
      simp only [List.getElem_map, List.getElem_range]
      obtain ⟨m4, m5, at', ct, ae, ce, d0, d1, d2, d3, d4, d5, r4, r5⟩ := hf i hi'
      have ha : ∀ j, ((⟨b, off, none⟩ : Addr).add (i * 6)).add j = ⟨b, off + i * 6 + j, none⟩ := by
        intro j
        simp only [Addr.add]
        split <;> split <;> simp_all
      simp only [ha] at d0 d1 d2 d3 d4 d5
      exact StAt.into ⟨trivial, m4, m5, at', ct, ae, ce, d0, d1, d2, d3, d4, d5, r4, r5⟩
end

end Go.Proofs.Ytgphnpljjilfjaa

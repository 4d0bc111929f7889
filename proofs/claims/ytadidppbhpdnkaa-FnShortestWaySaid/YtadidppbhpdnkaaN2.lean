/- slices.Concat of two lists of ints. -/
import Derived.Test.YtadidppbhpdnkaaM3

import Derived.Lib.AppendZerosOnto

namespace Go.Proofs.Ytadidppbhpdnkaa

open Go.RowKit Go.Lib

/-- Room for n ints, where there was no list. -/
def Grown (n : Nat) (w : World) (e : Ending) (w' : World) : Prop :=
  Gr w w' none ∧ ((n = 0 ∧ e = .returned (.slice none 0 0)) ∨ ∃ g cap, e = .returned (.slice (some ⟨g, 0, none⟩) 0 cap) ∧ n ≤ cap ∧ Que w' w.heap.size g 0 0 cap [])
theorem zeroCells_size (cs : Array Value) (n : Nat) : (Builtin.zeroCells cs n).size = n * cs.size := by
  unfold Builtin.zeroCells
  first | simp | (simp; omega)
/-- append of nothing to nothing. -/
theorem app_none (w : World) {ops : Array Oper} {rest : List Oper} {o : Oper} {a : Act} {Q : Exit → Act → World → Prop} (hgd : o.guard = none) (s x : Operand)
    (ho : o.op = .call { callee := .builtin .append, args := #[s, x], argTypes := #[23, 23] })
    (hs : a.eval s = .slice none 0 0) (an : Option Addr) (cn n : Nat) (hx : a.eval x = .slice an n cn) (hn : n = 0)
    (h : wpList Try.prog ops Q rest (a.put o.dst (.slice none 0 0)) w) : wpList Try.prog ops Q (o :: rest) a w := by
  subst hn
  obtain ⟨i, hi, hz0, hz1, hz2⟩ := info_parts Qinfo
  refine Lib.wpList_append_run w hgd s x _ _ ho _ _ hs hx _ _ ?_ h
  cases an <;> simp [Builtin.append_, run_underlying Try.underlying23, sizeOf, typeInfo, hi, Builtin.lenOf, Builtin.firstCells, loadCells, loadCellsFrom]

/-- Two lists behind one another, to be read. -/
def Joined (l : List Int) (w : World) (e : Ending) (w' : World) : Prop := ∃ (a : Option Addr) (c : Nat), e = .returned (.slice a l.length c) ∧ InAt w' (fun b _ => w.heap.size ≤ b) l a ∧ l.length ≤ c ∧ Gr w w' none
/-- What the second loop holds. -/
def Cat (w wr : World) (tot : Nat) (l : List Int) (v : Value) : Prop :=
  Gr w wr none ∧ ((tot = 0 ∧ l = [] ∧ v = .slice none 0 0) ∨ ∃ g off cap, v = .slice (some ⟨g, off, none⟩) l.length cap ∧ Que wr w.heap.size g off l.length cap l)
theorem Que.ints {w : World} {base g off n cap : Nat} {l : List Int} (h : Que w base g off n cap l) : InAt w (fun b _ => base ≤ b) l (some ⟨g, off, none⟩) := InAt.of fun _ hi => ⟨h.1, h.cell hi⟩
theorem Cat.joined {w wr : World} {tot : Nat} {l : List Int} {v : Value} (h : Cat w wr tot l v) : Joined l w (.returned v) wr := by
  obtain ⟨hg, ⟨_, rfl, rfl⟩ | ⟨g, off, cap, rfl, hq⟩⟩ := h
  · exact ⟨none, 0, rfl, by simp [InAt], Nat.le_refl _, hg⟩
  · exact ⟨_, _, rfl, hq.ints, hq.2.2.2.1, hg⟩
end Go.Proofs.Ytadidppbhpdnkaa

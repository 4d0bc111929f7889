/- Runs: walks of RunPath, in the program and in the reference. -/
import Derived.Test.YtadlnjglpigjmaaZ3

import Derived.Test.YtadlnjglpigjmaaW1

import Derived.Test.YtadlnjglpigjmaaN1

import Derived.Laws.BitsLemmas

import Derived.Lib.SliceRun

namespace Go.Proofs.Ytadlnjglpigjmaa

open Go.RowKit

/-- The list l and the truth b are handed back, the list in new memory that may be written. -/
def HandIOk (l : List Int) (b : Bool) (w : World) (e : Ending) (w' : World) : Prop :=
  ∃ (a : Option Addr) (c : Nat), e = .returned (.tuple #[.slice a l.length c, .bool b]) ∧ InAt w' Any l a ∧ (∀ g, ob a = some g → w.heap.size ≤ g ∧ g < w'.heap.size) ∧ (∀ x : Addr, ob a = some x.block → w'.frozen? x = false) ∧ Gr w w' none ∧ l.length ≤ c
/-- What is handed back has room for its elements. -/
def CapOk (e : Ending) : Prop := ∀ a n c, e = .returned (.slice a n c) → n ≤ c
theorem HandI.ok {l : List Int} {w w' : World} {a : Option Addr} {n c : Nat} (b : Bool) (h : HandI l w (.returned (.slice a n c)) w') (hnc : n ≤ c) : HandIOk l b w (.returned (.tuple #[.slice a n c, .bool b])) w' := by
  obtain ⟨a', c', e, h1, h2, h3, h4⟩ := h
  cases e
  exact ⟨a, c, rfl, h1, h2, h3, h4, hnc⟩
theorem CapOk.of {a : Option Addr} {n c : Nat} (h : n ≤ c) : CapOk (.returned (.slice a n c)) := by
  intro a' n' c' e; cases e; exact h
theorem InAt.pre {w : World} {D : Nat → Nat → Prop} (m : Nat) : ∀ {l : List Int} {a : Option Addr}, InAt w D l a → InAt w D (l.take m) a := by
  induction m with
  | zero => intro l a _; simp [InAt]
  | succ m ih =>
    intro l a h
    cases l with
    | nil => simp [InAt]
    | cons x r =>
      simp only [InAt, List.take_succ_cons] at h ⊢
      obtain ⟨b, off, e, h1, h2, h3⟩ := h
      exact ⟨b, off, e, h1, h2, ih h3⟩
theorem Lst.cap {w : World} {b0 base : Nat} {l : List Int} {ao : Option Addr} {n cap : Nat} (h : Lst w b0 base l ao n cap) : n ≤ cap := by
  rcases h.2.2 with ⟨h1, h2, _⟩ | h4
  · have := h.1; rw [h1] at this; simp at this; omega
  · rcases h4.2 with ⟨hv, hn⟩ | ⟨g, cap', cur, hv, hb, hc, h1, _⟩
    · omega
    · cases hv; exact h1
theorem zs_take (l : List Nat) (m : Nat) : zs (l.take m) = (zs l).take m := by simp [zs, List.map_take]

/-- append of nothing. -/
theorem app_nothing (w : World) {ops : Array Oper} {rest : List Oper} {o : Oper} {a : Act} {Q : Exit → Act → World → Prop} (hgd : o.guard = none) (s x : Operand)
    (ho : o.op = .call { callee := .builtin .append, args := #[s, x], argTypes := #[22, 22] })
    (g off n cap : Nat) (hs : a.eval s = .slice (some ⟨g, off, none⟩) n cap) (h4 : n ≤ cap) (_hn : n ≤ 1000000)
    (an : Option Addr) (cn : Nat) (hx : a.eval x = .slice an 0 cn)
    (h : wpList Try.prog ops Q rest (a.put o.dst (.slice (some ⟨g, off, none⟩) n cap)) w) : wpList Try.prog ops Q (o :: rest) a w := by
  obtain ⟨i, hi, hz, hsz, hby⟩ := info_parts Qinfo
  refine wpList_plain hgd fun K hK => ?_
  have hrun : (Builtin.append_ #[22, 22] o.type #[.slice (some ⟨g, off, none⟩) n cap, .slice an 0 cn]).run Try.prog w = .ok (.slice (some ⟨g, off, none⟩) n cap) w := by
    cases an with
    | none => simp [Builtin.append_, run_underlying Try.underlying22, sizeOf, typeInfo, hi, Builtin.lenOf, Builtin.firstCells, h4, storeCells]
    | some ad =>
      have := run_append_room_cells (P := Try.prog) w 22 o.type 3 i Try.underlying22 hi g off n cap ad 0 cn [] (by simp) (by simp) (by simp) (by simpa using h4) (by simp) (by simp)
      simpa [World.setCells] using this
  unfold Oper.wp
  simp [execOp, ho, resolve, invoke, builtin, hs, hx, hrun, Result.andThen]
  exact hK _ _ h
end Go.Proofs.Ytadlnjglpigjmaa

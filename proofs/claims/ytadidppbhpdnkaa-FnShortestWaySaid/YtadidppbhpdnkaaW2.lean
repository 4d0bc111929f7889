/- Runs: walks of RunPath, in the program and in the reference. -/
import Derived.Test.YtadidppbhpdnkaaZ3

import Derived.Test.YtadidppbhpdnkaaW1

import Derived.Test.YtadidppbhpdnkaaN1

import Derived.Laws.BitsLemmas

import Derived.Lib.SliceRun

namespace Go.Proofs.Ytadidppbhpdnkaa

open Go.RowKit

/-- The list l and the truth b are handed back, the list in new memory that may be written. -/
def HandIOk (l : List Int) (b : Bool) (w : World) (e : Ending) (w' : World) : Prop :=
  ∃ (a : Option Addr) (c : Nat), e = .returned (.tuple #[.slice a l.length c, .bool b]) ∧ InAt w' Any l a ∧ (∀ g, ob a = some g → w.heap.size ≤ g ∧ g < w'.heap.size) ∧ (∀ x : Addr, ob a = some x.block → w'.frozen? x = false) ∧ Gr w w' none ∧ l.length ≤ c
/-- What is handed back has room for its elements. -/
def CapOk (e : Ending) : Prop := ∀ a n c, e = .returned (.slice a n c) → n ≤ c
theorem HandI.ok {l : List Int} {w w' : World} {a : Option Addr} {n c : Nat} (b : Bool) (h : HandI l w (.returned (.slice a n c)) w') (hnc : n ≤ c) : HandIOk l b w (.returned (.tuple #[.slice a n c, .bool b])) w' := by
  obtain ⟨a', c', e, h1, h2, h3, h4⟩ := h
  cases e
  exact ⟨a, c, rfl, h1, h2, h3, h4, hnc⟩
theorem CapOk.of {a : Option Addr} {n c : Nat} (h : n ≤ c) : CapOk (.returned (.slice a n c)) := by
  intro a' n' c' e; cases e; exact h
theorem InAt.pre {w : World} {D : Nat → Nat → Prop} (m : Nat) : ∀ {l : List Int} {a : Option Addr}, InAt w D l a → InAt w D (l.take m) a := by
  induction m with
  | zero => intro l a _; simp [InAt]
  | succ m ih =>
    intro l a h
    cases l with
    | nil => simp [InAt]
    | cons x r =>
      simp only [InAt, List.take_succ_cons] at h ⊢
      obtain ⟨b, off, e, h1, h2, h3⟩ := h
      exact ⟨b, off, e, h1, h2, ih h3⟩
theorem Lst.cap {w : World} {b0 base : Nat} {l : List Int} {ao : Option Addr} {n cap : Nat} (h : Lst w b0 base l ao n cap) : n ≤ cap := by
  rcases h.2.2 with ⟨h1, h2, _⟩ | h4
  · have := h.1; rw [h1] at this; simp at this; omega
  · rcases h4.2 with ⟨hv, hn⟩ | ⟨g, cap', cur, hv, hb, hc, h1, _⟩
    · omega
    · cases hv; exact h1
theorem zs_take (l : List Nat) (m : Nat) : zs (l.take m) = (zs l).take m := by simp [zs, List.map_take]

/-- append of nothing. -/
theorem app_nothing (w : World) {ops : Array Oper} {rest : List Oper} {o : Oper} {a : Act} {Q : Exit → Act → World → Prop} (hgd : o.guard = none) (s x : Operand)
    (ho : o.op = .call { callee := .builtin .append, args := #[s, x], argTypes := #[23, 23] })
    (g off n cap : Nat) (hs : a.eval s = .slice (some ⟨g, off, none⟩) n cap) (h4 : n ≤ cap) (_hn : n ≤ 1000000)
    (an : Option Addr) (cn : Nat) (hx : a.eval x = .slice an 0 cn)
    (h : wpList Try.prog ops Q rest (a.put o.dst (.slice (some ⟨g, off, none⟩) n cap)) w) : wpList Try.prog ops Q (o :: rest) a w := by
  obtain ⟨i, hi, hz, hsz, hby⟩ := info_parts Qinfo
  refine wpList_plain hgd fun K hK => ?_
  have hrun : (Builtin.append_ #[23, 23] o.type #[.slice (some ⟨g, off, none⟩) n cap, .slice an 0 cn]).run Try.prog w = .ok (.slice (some ⟨g, off, none⟩) n cap) w := by
    cases an with
    | none => simp [Builtin.append_, run_underlying Try.underlying23, sizeOf, typeInfo, hi, Builtin.lenOf, Builtin.firstCells, h4, storeCells]
    | some ad =>
      have := run_append_room_cells (P := Try.prog) w 23 o.type 3 i Try.underlying23 hi g off n cap ad 0 cn [] (by simp) (by simp) (by simp) (by simpa using h4) (by simp) (by simp)
      simpa [World.setCells] using this
  unfold Oper.wp
  simp [execOp, ho, resolve, invoke, builtin, hs, hx, hrun, Result.andThen]
  exact hK _ _ h
set_option maxRecDepth 100000 in
set_option maxHeartbeats 1000000 in
/-- slices.Clone of a list of ints. -/
theorem clone_any (l : List Int) (a : Option Addr) (c : Nat) (w : World) (h : InAt w Any l a) (hl : l.length ≤ 1000000) : Calls Try.prog 58 #[.slice a l.length c] w fun e w' => HandI l w e w' ∧ CapOk e := by
  have qT : ∀ (u : World) (a : Option Addr) (n c : Nat), (binOp .eql 23 (.slice a n c) (.slice none 0 0)).run Try.prog u = .ok (.bool a.isNone) u := fun u a n c => Lib.run_eql_slice_nil u 23 3 a n c 0 0 Try.underlying23
  cases a with
  | none =>
    have hl0 : l = [] := by
      cases l with
      | nil => rfl
      | cons x r => obtain ⟨_, _, e, _⟩ := h.at (i := 0) (by simp); simp at e
    subst hl0
    go_enter Try.func58, Try.ntmps58
    go_wp2
    go_ret
    exact ⟨HandI.nil _ _ (Gr.refl _ _), CapOk.of (Nat.le_refl _)⟩
  | some ad =>
    obtain ⟨i0, hi, hz0, hz1, hz2⟩ := info_parts Qinfo
    have hg1 : Gr w (w.alloc (.cells #[] 3)) none := (Gr.refl _ _).alloc _
    have hE := own_empty (base := w.heap.size) (Nat.le_refl _) (heap1_0 w (.cells #[] 3))
    by_cases hl0 : l = []
    · subst hl0
      go_enter Try.func58, Try.ntmps58
      go_wp2_with (at_builtin; refine app_nothing _ rfl (.tmp 5) (.tmp 6) rfl w.heap.size 0 0 0 rfl (Nat.le_refl _) (by omega) _ _ rfl ?_)
      go_ret
      exact ⟨HandI.own (l := []) rfl hE hg1, CapOk.of (Nat.le_refl _)⟩
    · have hpos : 0 < l.length := List.length_pos_iff.2 hl0
      have hsp := h.addr hpos
      have hnews : ∀ j u, (ints l)[j]? = some u → (w.alloc (.cells #[] 3)).cell? (ad.add j) = some u := by
        intro j u hu
        have hj : j < l.length := by simpa [ints] using (List.getElem?_eq_some_iff.1 hu).1
        obtain ⟨b', o', e, _, hc⟩ := h.at hj
        cases e
        rw [Addr.add_lit]
        refine hg1.cell ?_ (by simp)
        rw [hc]
        simpa [ints, hj] using hu
      have HN := Lib.hid hnews
      clear hnews
      go_enter Try.func58, Try.ntmps58
      go_wp2_with (at_builtin; refine app_own _ rfl (.tmp 5) (.tmp 6) 23 rfl w.heap.size 3 i0 _ 1 8 Try.underlying23 hi hz0 hz1 hz2 rfl (by decide) (some ⟨w.heap.size, 0, none⟩) 0 0 (ints []) rfl hE ad l.length c (ints l) rfl (by simp [ints]) HN.out (ints_one l) (by unfold maxLen; omega) (by omega) hg1.size hpos ?_; rintro g cap' w' h2 h3 h4)
      go_ret
      have hG : Gr w w' none := hg1.trans h3 (fun r hr => .inr (by simp [ob] at hr; omega))
      have h5 : w'.ownsRow w.heap.size 3 1 (.slice (some ⟨g, 0, none⟩) l.length cap') l.length (ints l) := by simpa [ints] using h2
      refine ⟨HandI.own rfl h5 hG, CapOk.of ?_⟩
      rcases h5.2 with ⟨hv, _⟩ | ⟨g', cap2, cur, hv, _, _, h1, _⟩
      · cases hv
      · cases hv; exact h1
end Go.Proofs.Ytadidppbhpdnkaa

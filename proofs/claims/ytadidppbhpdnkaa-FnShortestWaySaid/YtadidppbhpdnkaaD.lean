/- Data: statements and programs as plain Lean values, and how they lie in memory. What changes between two worlds. No walk stands here. -/
import Derived.Test.YtadidppbhpdnkaaProg

import Derived.WalkKit

import Derived.WalkSpells

import Derived.WalkLawsBesides

import Derived.BigGuardPart

import Derived.Deep.QuietTactic

import Derived.BigQuiet

import Derived.Lib.Hide

namespace Go.Proofs.Ytadidppbhpdnkaa

open Go.RowKit

/-! ### What changes -/

abbrev Gr (w w' : World) (row : Option Nat) : Prop := w.grownBy w' row

theorem Gr.refl (w : World) (row : Option Nat) : Gr w w row := ⟨rfl, rfl, rfl, Nat.le_refl _, fun _ _ _ => rfl⟩
theorem Gr.alloc {a w : World} {row : Option Nat} (h : Gr a w row) (o : Obj) : Gr a (w.alloc o) row :=
  ⟨h.os, h.tape, h.output, by have := h.size; simp; omega, fun k hk hr => (Below.heap_alloc w o k (by have := h.size; omega)).trans (h.block k hk hr)⟩
theorem Gr.drew {a w : World} {row : Option Nat} (h : Gr a w row) : Gr a w.drew row := ⟨h.os, h.tape, h.output, h.size, h.block⟩
theorem Gr.drewN {a w : World} {row : Option Nat} (h : Gr a w row) (n : Nat) : Gr a (w.drewN n) row := ⟨h.os, h.tape, h.output, h.size, h.block⟩
theorem Gr.setNew {a w : World} {row : Option Nat} (h : Gr a w row) {p : Addr} (hp : a.heap.size ≤ p.block) (u : Value) : Gr a (w.setCell p u) row :=
  ⟨h.os, h.tape, h.output, by have := h.size; simpa [World.setCell] using this, fun k hk hr => (Below.heap_setCell w p u k (by omega)).trans (h.block k hk hr)⟩
theorem Gr.setOwn {a w : World} {r : Nat} (h : Gr a w (some r)) {p : Addr} (hp : p.block = r) (u : Value) : Gr a (w.setCell p u) (some r) :=
  ⟨h.os, h.tape, h.output, by have := h.size; simpa [World.setCell] using this, fun k hk hr => (Below.heap_setCell w p u k (by intro e; exact hr (by rw [e, hp]))).trans (h.block k hk hr)⟩
theorem own_set (w : World) (g o : Nat) (v : Value) : Gr w (w.setCell ⟨g, o, none⟩ v) (some g) := (Gr.refl _ _).setOwn rfl _
/-- The second step writes at most what the first may, or what came after the first world. -/
theorem Gr.trans {a b c : World} {row row' : Option Nat} (h : Gr a b row) (k : Gr b c row') (hr : ∀ r, row' = some r → row = some r ∨ a.heap.size ≤ r) : Gr a c row :=
  ⟨k.os.trans h.os, k.tape.trans h.tape, k.output.trans h.output, Nat.le_trans h.size k.size, fun i hi hne =>
    (k.block i (by have := h.size; omega) (fun e => by rcases hr i e.symm with q | q; · exact hne q.symm
                                                       · omega)).trans (h.block i hi hne)⟩
theorem Gr.trans0 {a b c : World} {row : Option Nat} (h : Gr a b row) (k : Gr b c none) : Gr a c row := h.trans k (by simp)
theorem Gr.below {a b : World} (h : Gr a b none) : Below a.heap.size a b := ⟨h.os, h.tape, h.output, h.size, fun k hk => h.block k hk (by simp)⟩
theorem Gr.weaken {a b : World} {row : Option Nat} (h : Gr a b none) : Gr a b row := ⟨h.os, h.tape, h.output, h.size, fun k hk _ => h.block k hk (by simp)⟩
theorem Gr.cell {a b : World} {row : Option Nat} (h : Gr a b row) {p : Addr} {v : Value} (hc : a.cell? p = some v) (hr : row ≠ some p.block) : b.cell? p = some v :=
  World.grownBy.cell h hc (fun e => hr e.symm)
theorem lt_of_cell {w : World} {p : Addr} {v : Value} (hc : w.cell? p = some v) : p.block < w.heap.size := by
  unfold World.cell? at hc
  split at hc
  · rename_i h; exact (Array.getElem?_eq_some_iff.1 h).1
  · simp at hc
theorem Gr.frozen {a b : World} {row : Option Nat} (h : Gr a b row) {p : Addr} (hp : p.block < a.heap.size) (hr : row ≠ some p.block) : b.frozen? p = a.frozen? p :=
  World.frozen?_of_block (h.block p.block hp (fun e => hr e.symm))

theorem heap1_0 (w : World) (A : Obj) : (w.alloc A).heap[w.heap.size]? = some A := heap_alloc_new w A
theorem heap2_1 (w : World) (A B : Obj) : ((w.alloc A).alloc B).heap[w.heap.size + 1]? = some B := by
  have h := heap_alloc_new (w.alloc A) B
  rw [show (w.alloc A).heap.size = w.heap.size + 1 from by simp] at h
  exact h
theorem heap2_0 (w : World) (A B : Obj) : ((w.alloc A).alloc B).heap[w.heap.size]? = some A := by
  rw [Below.heap_alloc _ _ _ (by simp)]; exact heap1_0 w A
theorem heap3_2 (w : World) (A B C : Obj) : (((w.alloc A).alloc B).alloc C).heap[w.heap.size + 1 + 1]? = some C := by
  have h := heap2_1 (w.alloc A) B C
  rw [show (w.alloc A).heap.size = w.heap.size + 1 from by simp] at h
  exact h
theorem heap3_1 (w : World) (A B C : Obj) : (((w.alloc A).alloc B).alloc C).heap[w.heap.size + 1]? = some B := by
  rw [Below.heap_alloc _ _ _ (by simp)]; exact heap2_1 w A B
theorem heap3_0 (w : World) (A B C : Obj) : (((w.alloc A).alloc B).alloc C).heap[w.heap.size]? = some A := by
  rw [Below.heap_alloc _ _ _ (by simp; omega)]; exact heap2_0 w A B
/-! ### Numbers that lie in a row -/

/-- The ints l lie from the address a on; D: where each of them may lie. -/
def InAt (w : World) (D : Nat → Nat → Prop) : List Int → Option Addr → Prop
  | [], _ => True
  | x :: r, a => ∃ b off, a = some ⟨b, off, none⟩ ∧ D b off ∧ w.cell? ⟨b, off, none⟩ = some (.int .i64 x) ∧ InAt w D r (some ⟨b, off + 1, none⟩)

/-! ### Statements -/

inductive St where
  | mk (op x y n : Int) (thn els : List St)

mutual
/-- The statement lies in the six cells from b, off on. -/
def StAt (w : World) (D : Nat → Nat → Prop) : St → Nat → Nat → Prop
  | .mk op x y n t e, b, off => D b off ∧ t.length ≤ maxLen ∧ e.length ≤ maxLen ∧ ∃ at' ct ae ce,
      w.cell? ⟨b, off, none⟩ = some (.int .i64 op) ∧ w.cell? ⟨b, off + 1, none⟩ = some (.int .i64 x) ∧ w.cell? ⟨b, off + 2, none⟩ = some (.int .i64 y) ∧
      w.cell? ⟨b, off + 3, none⟩ = some (.int .i64 n) ∧ w.cell? ⟨b, off + 4, none⟩ = some (.slice at' t.length ct) ∧ w.cell? ⟨b, off + 5, none⟩ = some (.slice ae e.length ce) ∧
      SlAt w D t at' ∧ SlAt w D e ae
def SlAt (w : World) (D : Nat → Nat → Prop) : List St → Option Addr → Prop
  | [], _ => True
  | s :: r, a => ∃ b off, a = some ⟨b, off, none⟩ ∧ StAt w D s b off ∧ SlAt w D r (some ⟨b, off + 6, none⟩)
end

def St.op : St → Int | .mk o _ _ _ _ _ => o
def St.x : St → Int | .mk _ x _ _ _ _ => x
def St.y : St → Int | .mk _ _ y _ _ _ => y
def St.n : St → Int | .mk _ _ _ n _ _ => n
def St.thn : St → List St | .mk _ _ _ _ t _ => t
def St.els : St → List St | .mk _ _ _ _ _ e => e

mutual
/-- How many statements a statement holds within itself. -/
def St.inner : St → Nat
  | .mk _ _ _ _ t e => St.count t + St.count e
/-- How many statements, at every depth. -/
def St.count : List St → Nat
  | [] => 0
  | s :: r => 1 + St.inner s + St.count r
end

structure Pr where
  types : List Int
  body : List St

mutual
theorem StAt.mono {w w' : World} {D D' : Nat → Nat → Prop} (hD : ∀ b o, D b o → D' b o) (hc : ∀ b o v, D b o → ∀ j, j < 6 → w.cell? ⟨b, o + j, none⟩ = some v → w'.cell? ⟨b, o + j, none⟩ = some v) :
    ∀ (s : St) (b off : Nat), StAt w D s b off → StAt w' D' s b off
  | .mk op x y n t e, b, off, h => by
    simp only [StAt] at h ⊢
    obtain ⟨h0, ht, he, at', ct, ae, ce, c0, c1, c2, c3, c4, c5, r4, r5⟩ := h
    exact ⟨hD _ _ h0, ht, he, at', ct, ae, ce, hc _ _ _ h0 0 (by omega) c0, hc _ _ _ h0 1 (by omega) c1, hc _ _ _ h0 2 (by omega) c2, hc _ _ _ h0 3 (by omega) c3, hc _ _ _ h0 4 (by omega) c4, hc _ _ _ h0 5 (by omega) c5, SlAt.mono hD hc t at' r4, SlAt.mono hD hc e ae r5⟩
theorem SlAt.mono {w w' : World} {D D' : Nat → Nat → Prop} (hD : ∀ b o, D b o → D' b o) (hc : ∀ b o v, D b o → ∀ j, j < 6 → w.cell? ⟨b, o + j, none⟩ = some v → w'.cell? ⟨b, o + j, none⟩ = some v) :
    ∀ (l : List St) (a : Option Addr), SlAt w D l a → SlAt w' D' l a
  | [], _, _ => by simp [SlAt]
  | s :: r, a, h => by
    simp only [SlAt] at h ⊢
    obtain ⟨b, off, ha, hs, hr⟩ := h
    exact ⟨b, off, ha, StAt.mono hD hc s b off hs, SlAt.mono hD hc r _ hr⟩
end
theorem InAt.mono {w w' : World} {D D' : Nat → Nat → Prop} (hD : ∀ b o, D b o → D' b o) (hc : ∀ b o v, D b o → w.cell? ⟨b, o, none⟩ = some v → w'.cell? ⟨b, o, none⟩ = some v) :
    ∀ (l : List Int) (a : Option Addr), InAt w D l a → InAt w' D' l a
  | [], _, _ => by simp [InAt]
  | x :: r, a, h => by
    simp only [InAt] at h ⊢
    obtain ⟨b, off, ha, hd, hx, hr⟩ := h
    exact ⟨b, off, ha, hD _ _ hd, hc _ _ _ hd hx, InAt.mono hD hc r _ hr⟩

/-- Everywhere. -/
def Any (_ _ : Nat) : Prop := True
/-- In blocks other than one. -/
def Off (row : Option Nat) (b _ : Nat) : Prop := row ≠ some b

theorem SlAt.gr {w w' : World} {row : Option Nat} {D : Nat → Nat → Prop} (hg : Gr w w' row) (hD : ∀ b o, D b o → row ≠ some b) {l : List St} {a : Option Addr} (h : SlAt w D l a) : SlAt w' D l a :=
  SlAt.mono (fun _ _ h => h) (fun b _ _ hd _ _ hc => hg.cell hc (hD b _ hd)) l a h
theorem InAt.gr {w w' : World} {row : Option Nat} {D : Nat → Nat → Prop} (hg : Gr w w' row) (hD : ∀ b o, D b o → row ≠ some b) {l : List Int} {a : Option Addr} (h : InAt w D l a) : InAt w' D l a :=
  InAt.mono (fun _ _ h => h) (fun b _ _ hd hc => hg.cell hc (hD b _ hd)) l a h
theorem SlAt.gr0 {w w' : World} {D : Nat → Nat → Prop} (hg : Gr w w' none) {l : List St} {a : Option Addr} (h : SlAt w D l a) : SlAt w' D l a := h.gr hg (by simp)
theorem InAt.gr0 {w w' : World} {D : Nat → Nat → Prop} (hg : Gr w w' none) {l : List Int} {a : Option Addr} (h : InAt w D l a) : InAt w' D l a := h.gr hg (by simp)
theorem SlAt.any {w : World} {D : Nat → Nat → Prop} {l : List St} {a : Option Addr} (h : SlAt w D l a) : SlAt w Any l a := SlAt.mono (fun _ _ _ => trivial) (fun _ _ _ _ _ _ h => h) l a h
theorem InAt.any {w : World} {D : Nat → Nat → Prop} {l : List Int} {a : Option Addr} (h : InAt w D l a) : InAt w Any l a := InAt.mono (fun _ _ _ => trivial) (fun _ _ _ _ h => h) l a h

mutual
theorem StAt.lt {w : World} {D : Nat → Nat → Prop} : ∀ (s : St) (b off : Nat), StAt w D s b off → StAt w (fun b o => D b o ∧ b < w.heap.size) s b off
  | .mk op x y n t e, b, off, h => by
    simp only [StAt] at h ⊢
    obtain ⟨h0, ht, he, at', ct, ae, ce, c0, c1, c2, c3, c4, c5, r4, r5⟩ := h
    exact ⟨⟨h0, lt_of_cell c0⟩, ht, he, at', ct, ae, ce, c0, c1, c2, c3, c4, c5, SlAt.lt t at' r4, SlAt.lt e ae r5⟩
theorem SlAt.lt {w : World} {D : Nat → Nat → Prop} : ∀ (l : List St) (a : Option Addr), SlAt w D l a → SlAt w (fun b o => D b o ∧ b < w.heap.size) l a
  | [], _, _ => by simp [SlAt]
  | s :: r, a, h => by
    simp only [SlAt] at h ⊢
    obtain ⟨b, off, ha, hs, hr⟩ := h
    exact ⟨b, off, ha, StAt.lt s b off hs, SlAt.lt r _ hr⟩
end
theorem InAt.lt {w : World} {D : Nat → Nat → Prop} : ∀ (l : List Int) (a : Option Addr), InAt w D l a → InAt w (fun b o => D b o ∧ b < w.heap.size) l a
  | [], _, _ => by simp [InAt]
  | x :: r, a, h => by
    simp only [InAt] at h ⊢
    obtain ⟨b, off, ha, hd, hx, hr⟩ := h
    exact ⟨b, off, ha, ⟨hd, lt_of_cell hx⟩, hx, InAt.lt r _ hr⟩
/-- What is old lies off a block that is new. -/
theorem SlAt.old {w : World} {D : Nat → Nat → Prop} {l : List St} {a : Option Addr} (h : SlAt w D l a) {n : Nat} (hn : w.heap.size ≤ n) : SlAt w (Off (some n)) l a :=
  SlAt.mono (fun b _ hd => by unfold Off; intro e; injection e with e; have := hd.2; omega) (fun _ _ _ _ _ _ h => h) l a (SlAt.lt l a h)
theorem InAt.old {w : World} {D : Nat → Nat → Prop} {l : List Int} {a : Option Addr} (h : InAt w D l a) {n : Nat} (hn : w.heap.size ≤ n) : InAt w (Off (some n)) l a :=
  InAt.mono (fun b _ hd => by unfold Off; intro e; injection e with e; have := hd.2; omega) (fun _ _ _ _ h => h) l a (InAt.lt l a h)

/-- Element i. -/
theorem InAt.at {w : World} {D : Nat → Nat → Prop} : ∀ {l : List Int} {a : Option Addr}, InAt w D l a → ∀ {i : Nat} (h : i < l.length), ∃ b off, a = some ⟨b, off, none⟩ ∧ D b (off + i) ∧ w.cell? ⟨b, off + i, none⟩ = some (.int .i64 l[i])
  | x :: r, a, h, 0, _ => by
    simp only [InAt] at h
    obtain ⟨b, off, ha, hd, hx, _⟩ := h
    exact ⟨b, off, ha, hd, hx⟩
  | x :: r, a, h, i + 1, hi => by
    simp only [InAt] at h
    obtain ⟨b, off, ha, _, _, hr⟩ := h
    obtain ⟨b', off', e, hd, hc⟩ := InAt.at hr (i := i) (by simpa using hi)
    simp only [Option.some.injEq, Addr.mk.injEq] at e
    obtain ⟨rfl, rfl, _⟩ := e
    exact ⟨b, off, ha, by rw [show off + (i + 1) = off + 1 + i from by omega]; exact hd, by rw [show off + (i + 1) = off + 1 + i from by omega]; simpa using hc⟩
theorem SlAt.at {w : World} {D : Nat → Nat → Prop} : ∀ {l : List St} {a : Option Addr}, SlAt w D l a → ∀ {i : Nat} (h : i < l.length), ∃ b off, a = some ⟨b, off, none⟩ ∧ StAt w D l[i] b (off + i * 6)
  | x :: r, a, h, 0, _ => by
    simp only [SlAt] at h
    obtain ⟨b, off, ha, hx, _⟩ := h
    exact ⟨b, off, ha, by simpa using hx⟩
  | x :: r, a, h, i + 1, hi => by
    simp only [SlAt] at h
    obtain ⟨b, off, ha, _, hr⟩ := h
    obtain ⟨b', off', e, hc⟩ := SlAt.at hr (i := i) (by simpa using hi)
    simp only [Option.some.injEq, Addr.mk.injEq] at e
    obtain ⟨rfl, rfl, _⟩ := e
    exact ⟨b, off, ha, by rw [show off + (i + 1) * 6 = off + 6 + i * 6 from by omega]; simpa using hc⟩

/-- The elements by their index give the whole again. -/
theorem InAt.of {w : World} {D : Nat → Nat → Prop} {b : Nat} : ∀ {l : List Int} {off : Nat}, (∀ i (h : i < l.length), D b (off + i) ∧ w.cell? ⟨b, off + i, none⟩ = some (.int .i64 l[i])) → InAt w D l (some ⟨b, off, none⟩)
  | [], _, _ => by simp [InAt]
  | x :: r, off, h => by
    simp only [InAt]
    refine ⟨b, off, rfl, (h 0 (by simp)).1, (h 0 (by simp)).2, InAt.of fun i hi => ?_⟩
    have := h (i + 1) (by simpa using hi)
    rw [show off + 1 + i = off + (i + 1) from by omega]
    simpa using this
theorem SlAt.of {w : World} {D : Nat → Nat → Prop} {b : Nat} : ∀ {l : List St} {off : Nat}, (∀ i (h : i < l.length), StAt w D l[i] b (off + i * 6)) → SlAt w D l (some ⟨b, off, none⟩)
  | [], _, _ => by simp [SlAt]
  | x :: r, off, h => by
    simp only [SlAt]
    refine ⟨b, off, rfl, by have := h 0 (by simp); simp only [Nat.zero_mul, Nat.add_zero] at this; exact this, SlAt.of fun i hi => ?_⟩
    have := h (i + 1) (by simpa using hi)
    rw [show off + 6 + i * 6 = off + (i + 1) * 6 from by omega]
    simpa using this

theorem StAt.out {w : World} {D : Nat → Nat → Prop} {s : St} {b off : Nat} (h : StAt w D s b off) : D b off ∧ s.thn.length ≤ maxLen ∧ s.els.length ≤ maxLen ∧ ∃ at' ct ae ce,
      w.cell? ⟨b, off, none⟩ = some (.int .i64 s.op) ∧ w.cell? ⟨b, off + 1, none⟩ = some (.int .i64 s.x) ∧ w.cell? ⟨b, off + 2, none⟩ = some (.int .i64 s.y) ∧
      w.cell? ⟨b, off + 3, none⟩ = some (.int .i64 s.n) ∧ w.cell? ⟨b, off + 4, none⟩ = some (.slice at' s.thn.length ct) ∧ w.cell? ⟨b, off + 5, none⟩ = some (.slice ae s.els.length ce) ∧
      SlAt w D s.thn at' ∧ SlAt w D s.els ae := by
  cases s with
  | mk op x y n t e => simp only [StAt] at h; exact h
theorem StAt.into {w : World} {D : Nat → Nat → Prop} {s : St} {b off : Nat} (h : D b off ∧ s.thn.length ≤ maxLen ∧ s.els.length ≤ maxLen ∧ ∃ at' ct ae ce,
      w.cell? ⟨b, off, none⟩ = some (.int .i64 s.op) ∧ w.cell? ⟨b, off + 1, none⟩ = some (.int .i64 s.x) ∧ w.cell? ⟨b, off + 2, none⟩ = some (.int .i64 s.y) ∧
      w.cell? ⟨b, off + 3, none⟩ = some (.int .i64 s.n) ∧ w.cell? ⟨b, off + 4, none⟩ = some (.slice at' s.thn.length ct) ∧ w.cell? ⟨b, off + 5, none⟩ = some (.slice ae s.els.length ce) ∧
      SlAt w D s.thn at' ∧ SlAt w D s.els ae) : StAt w D s b off := by
  cases s with
  | mk op x y n t e => simp only [StAt]; exact h
theorem ret_int {k : IntKind} {a b : Int} (h : a = b) : Ending.returned (.int k a) = .returned (.int k b) := by rw [h]
theorem ret_bool {a b : Bool} (h : a = b) : Ending.returned (.bool a) = .returned (.bool b) := by rw [h]
theorem all_take_succ {α : Type} {l : List α} {p : α → Bool} {k : Nat} (h : k < l.length) (h1 : (l.take k).all p = true) (h2 : p l[k] = true) : (l.take (k + 1)).all p = true := by
  rw [List.take_succ_eq_append_getElem h, List.all_append, h1]; simp [h2]
theorem all_take_all {α : Type} {l : List α} {p : α → Bool} {k : Nat} (h : l.length ≤ k) (h1 : (l.take k).all p = true) : l.all p = true := by
  rw [List.take_of_length_le h] at h1; exact h1
theorem all_at_false {α : Type} {l : List α} {p : α → Bool} {k : Nat} (h : k < l.length) (h1 : p l[k] = false) : l.all p = false := by
  rw [List.all_eq_false]; exact ⟨l[k], List.getElem_mem h, by simp [h1]⟩
end Go.Proofs.Ytadidppbhpdnkaa

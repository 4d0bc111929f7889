/- Walks of the laws' own helpers: marks that are written over ints, and looks at them. -/
/- Walks of the laws' own helpers: marks that are written over a program. -/
import Derived.Test.YtadidppbhpdnkaaH5

import Derived.Test.YtadidppbhpdnkaaV5

namespace Go.Proofs.Ytadidppbhpdnkaa

open Go.RowKit

/-- An int stays an int, a bool a bool; all else stays as it is. -/
def Like : Value → Value → Prop
  | .int k _, u => ∃ m, u = .int k m
  | .bool _, u => ∃ b, u = .bool b
  | v, u => u = v
theorem Like.refl (v : Value) : Like v v := by cases v <;> simp [Like]
theorem Like.trans {a b c : Value} (h : Like a b) (h' : Like b c) : Like a c := by
  cases a <;> simp only [Like] at h <;> (try (obtain ⟨m, rfl⟩ := h)) <;> (try subst h) <;> simp_all [Like]
theorem Like.int {k : IntKind} {n : Int} {u : Value} (h : Like (.int k n) u) : ∃ m, u = .int k m := h
theorem Like.bool {b : Bool} {u : Value} (h : Like (.bool b) u) : ∃ m, u = .bool m := h
theorem Like.slice {a : Option Addr} {n c : Nat} {u : Value} (h : Like (.slice a n c) u) : u = .slice a n c := h
/-- Marks are written in blocks P: each cell keeps its kind. -/
structure Wr (P : Nat → Prop) (w w' : World) : Prop where
  os : w'.os = w.os
  tape : w'.tape = w.tape
  output : w'.output = w.output
  size : w'.heap.size = w.heap.size
  block : ∀ k, ¬ P k → w'.heap[k]? = w.heap[k]?
  like : ∀ a v, w.cell? a = some v → ∃ u, w'.cell? a = some u ∧ Like v u
  frz : ∀ a, w'.frozen? a = w.frozen? a
theorem Wr.refl (P : Nat → Prop) (w : World) : Wr P w w := ⟨rfl, rfl, rfl, rfl, fun _ _ => rfl, fun _ v h => ⟨v, h, Like.refl v⟩, fun _ => rfl⟩
theorem Wr.trans {P : Nat → Prop} {a b c : World} (h : Wr P a b) (k : Wr P b c) : Wr P a c :=
  ⟨k.os.trans h.os, k.tape.trans h.tape, k.output.trans h.output, k.size.trans h.size, fun i hi => (k.block i hi).trans (h.block i hi), fun x v hv => by
    obtain ⟨u, hu, l1⟩ := h.like x v hv
    obtain ⟨t, ht, l2⟩ := k.like x u hu
    exact ⟨t, ht, l1.trans l2⟩, fun x => (k.frz x).trans (h.frz x)⟩
theorem Wr.set {P : Nat → Prop} {w : World} {p : Addr} {v u : Value} (hp : P p.block) (hc : w.cell? p = some v) (hl : Like v u) : Wr P w (w.setCell p u) :=
  ⟨rfl, rfl, rfl, by simp [World.setCell], fun k hk => Below.heap_setCell w p u k (by intro e; exact hk (e ▸ hp)), fun a x hx => by
    by_cases e : p = a
    · subst e
      rw [hc] at hx
      cases hx
      exact ⟨u, World.cell?_setCell_same _ _ _ hc, hl⟩
    · exact ⟨x, by rw [World.cell?_setCell_other _ _ _ _ e]; exact hx, Like.refl x⟩, fun a => World.frozen?_setCell _ _ _ _⟩
theorem Wr.mono {P Q : Nat → Prop} {w w' : World} (h : Wr P w w') (hPQ : ∀ k, P k → Q k) : Wr Q w w' :=
  ⟨h.os, h.tape, h.output, h.size, fun k hk => h.block k fun hp => hk (hPQ k hp), h.like, h.frz⟩
theorem Wr.cell {P : Nat → Prop} {w w' : World} (h : Wr P w w') {a : Addr} {v : Value} (hc : w.cell? a = some v) (hn : ¬ P a.block) : w'.cell? a = some v := by
  unfold World.cell? at hc ⊢
  rw [h.block _ hn]
  exact hc
theorem Wr.slice {P : Nat → Prop} {w w' : World} (h : Wr P w w') {a : Addr} {x : Option Addr} {n c : Nat} (hc : w.cell? a = some (.slice x n c)) : w'.cell? a = some (.slice x n c) := by
  obtain ⟨u, hu, hl⟩ := h.like a _ hc
  rw [hu, Like.slice hl]
theorem Wr.int {P : Nat → Prop} {w w' : World} (h : Wr P w w') {a : Addr} {x : Int} (hc : w.cell? a = some (.int .i64 x)) : ∃ y, w'.cell? a = some (.int .i64 y) := by
  obtain ⟨u, hu, hl⟩ := h.like a _ hc
  obtain ⟨m, rfl⟩ := hl.int
  exact ⟨m, hu⟩
/-- What is written is new. -/
theorem Wr.gr {P : Nat → Prop} {a w w' : World} (h : Wr P w w') (hg : Gr a w none) (hP : ∀ k, P k → a.heap.size ≤ k) : Gr a w' none :=
  ⟨h.os.trans hg.os, h.tape.trans hg.tape, h.output.trans hg.output, by rw [h.size]; exact hg.size, fun k hk hr => (h.block k (fun hp => by have := hP k hp; omega)).trans (hg.block k hk hr)⟩
theorem InAt.wr {P : Nat → Prop} {w w' : World} {D : Nat → Nat → Prop} (h : Wr P w w') (hD : ∀ b o, D b o → ¬ P b) {l : List Int} {a : Option Addr} (hI : InAt w D l a) : InAt w' D l a :=
  InAt.mono (fun _ _ h => h) (fun b _ _ hd hc => h.cell hc (hD b _ hd)) l a hI
theorem SlAt.wr {P : Nat → Prop} {w w' : World} {D : Nat → Nat → Prop} (h : Wr P w w') (hD : ∀ b o, D b o → ¬ P b) {l : List St} {a : Option Addr} (hI : SlAt w D l a) : SlAt w' D l a :=
  SlAt.mono (fun _ _ h => h) (fun b _ _ hd _ _ hc => h.cell hc (hD b _ hd)) l a hI

/-- The numbers k, k + 1, .. -/
def upFrom (k : Int) (n : Nat) : List Int := (List.range n).map fun (i : Nat) => k + i
theorem upFrom_length (k : Int) (n : Nat) : (upFrom k n).length = n := by simp [upFrom]
theorem upFrom_get {k : Int} {n j : Nat} (h : j < (upFrom k n).length) : (upFrom k n)[j] = k + j := by simp [upFrom]
/-- Some ints lie there: n of them, in D. -/
def IntsAt (w : World) (D : Nat → Prop) (n : Nat) (a : Option Addr) : Prop := ∀ i, i < n → ∃ b off x, a = some ⟨b, off, none⟩ ∧ D b ∧ w.cell? ⟨b, off + i, none⟩ = some (.int .i64 x)
theorem IntsAt.wr {P D : Nat → Prop} {w w' : World} (h : Wr P w w') {n : Nat} {a : Option Addr} (hI : IntsAt w D n a) : IntsAt w' D n a := by
  intro i hi
  obtain ⟨b, off, x, e, hd, hc⟩ := hI i hi
  obtain ⟨y, hy⟩ := h.int hc
  exact ⟨b, off, y, e, hd, hy⟩
theorem InAt.ints {w : World} {D : Nat → Nat → Prop} {P : Nat → Prop} {l : List Int} {a : Option Addr} (hI : InAt w D l a) (hD : ∀ b o, D b o → P b) : IntsAt w P l.length a := by
  intro i hi
  obtain ⟨b, off, e, hd, hc⟩ := hI.at hi
  exact ⟨b, off, _, e, hD _ _ hd, hc⟩
/-- Marked: the ints from k on lie there. -/
def MarkedI (P : Nat → Prop) (n : Nat) (a : Option Addr) (k : Int) (w : World) (e : Ending) (w' : World) : Prop :=
  e = .returned (.int .i64 (k + n)) ∧ Wr P w w' ∧ InAt w' (fun b _ => P b) (upFrom k n) a
theorem inAt_up {w : World} {P : Nat → Prop} {n : Nat} {a : Option Addr} {k : Int} (h : ∀ i, i < n → ∃ b off, a = some ⟨b, off, none⟩ ∧ P b ∧ w.cell? ⟨b, off + i, none⟩ = some (.int .i64 (k + i))) : InAt w (fun b _ => P b) (upFrom k n) a := by
  by_cases hn : n = 0
  · subst hn; simp [upFrom, InAt]
  · obtain ⟨b, off, rfl, hp, _⟩ := h 0 (by omega)
    refine InAt.of fun i hi => ?_
    obtain ⟨b', off', e, _, hc⟩ := h i (by rw [upFrom_length] at hi; exact hi)
    cases e
    exact ⟨hp, by rw [upFrom_get]; exact hc⟩

end Go.Proofs.Ytadidppbhpdnkaa

namespace Go.Proofs.Ytadidppbhpdnkaa

open Go.RowKit

mutual
/-- A statement of this form lies there, whatever its ints. -/
def StSh (w : World) (P : Nat → Prop) : St → Nat → Nat → Prop
  | .mk _ _ _ _ t e, b, off => P b ∧ t.length ≤ maxLen ∧ e.length ≤ maxLen ∧ (∃ x0 x1 x2 x3 : Int,
      w.cell? ⟨b, off, none⟩ = some (.int .i64 x0) ∧ w.cell? ⟨b, off + 1, none⟩ = some (.int .i64 x1) ∧ w.cell? ⟨b, off + 2, none⟩ = some (.int .i64 x2) ∧ w.cell? ⟨b, off + 3, none⟩ = some (.int .i64 x3)) ∧
      ∃ at' ct ae ce, w.cell? ⟨b, off + 4, none⟩ = some (.slice at' t.length ct) ∧ w.cell? ⟨b, off + 5, none⟩ = some (.slice ae e.length ce) ∧ SlSh w P t at' ∧ SlSh w P e ae
def SlSh (w : World) (P : Nat → Prop) : List St → Option Addr → Prop
  | [], _ => True
  | s :: r, a => ∃ b off, a = some ⟨b, off, none⟩ ∧ StSh w P s b off ∧ SlSh w P r (some ⟨b, off + 6, none⟩)
end
mutual
theorem StSh.wr {P Q : Nat → Prop} {w w' : World} (h : Wr Q w w') : ∀ (s : St) (b off : Nat), StSh w P s b off → StSh w' P s b off
  | .mk _ _ _ _ t e, b, off, hs => by
    simp only [StSh] at hs ⊢
    obtain ⟨h0, ht, he, ⟨x0, x1, x2, x3, c0, c1, c2, c3⟩, at', ct, ae, ce, c4, c5, r4, r5⟩ := hs
    obtain ⟨y0, d0⟩ := h.int c0
    obtain ⟨y1, d1⟩ := h.int c1
    obtain ⟨y2, d2⟩ := h.int c2
    obtain ⟨y3, d3⟩ := h.int c3
    exact ⟨h0, ht, he, ⟨y0, y1, y2, y3, d0, d1, d2, d3⟩, at', ct, ae, ce, h.slice c4, h.slice c5, SlSh.wr h t at' r4, SlSh.wr h e ae r5⟩
theorem SlSh.wr {P Q : Nat → Prop} {w w' : World} (h : Wr Q w w') : ∀ (l : List St) (a : Option Addr), SlSh w P l a → SlSh w' P l a
  | [], _, _ => by simp [SlSh]
  | s :: r, a, hs => by
    simp only [SlSh] at hs ⊢
    obtain ⟨b, off, ha, h1, h2⟩ := hs
    exact ⟨b, off, ha, StSh.wr h s b off h1, SlSh.wr h r _ h2⟩
end
mutual
theorem StAt.sh {w : World} {D : Nat → Nat → Prop} {P : Nat → Prop} (hD : ∀ b o, D b o → P b) : ∀ (s : St) (b off : Nat), StAt w D s b off → StSh w P s b off
  | .mk _ _ _ _ t e, b, off, hs => by
    simp only [StAt] at hs
    simp only [StSh]
    obtain ⟨h0, ht, he, at', ct, ae, ce, c0, c1, c2, c3, c4, c5, r4, r5⟩ := hs
    exact ⟨hD _ _ h0, ht, he, ⟨_, _, _, _, c0, c1, c2, c3⟩, at', ct, ae, ce, c4, c5, SlAt.sh hD t at' r4, SlAt.sh hD e ae r5⟩
theorem SlAt.sh {w : World} {D : Nat → Nat → Prop} {P : Nat → Prop} (hD : ∀ b o, D b o → P b) : ∀ (l : List St) (a : Option Addr), SlAt w D l a → SlSh w P l a
  | [], _, _ => by simp [SlSh]
  | s :: r, a, hs => by
    simp only [SlAt] at hs
    simp only [SlSh]
    obtain ⟨b, off, ha, h1, h2⟩ := hs
    exact ⟨b, off, ha, StAt.sh hD s b off h1, SlAt.sh hD r _ h2⟩
end
theorem SlSh.at {w : World} {P : Nat → Prop} : ∀ {l : List St} {a : Option Addr}, SlSh w P l a → ∀ {i : Nat} (h : i < l.length), ∃ b off, a = some ⟨b, off, none⟩ ∧ StSh w P l[i] b (off + i * 6)
  | x :: r, a, h, 0, _ => by
    simp only [SlSh] at h
    obtain ⟨b, off, ha, hx, _⟩ := h
    exact ⟨b, off, ha, by simpa using hx⟩
  | x :: r, a, h, i + 1, hi => by
    simp only [SlSh] at h
    obtain ⟨b, off, ha, _, hr⟩ := h
    obtain ⟨b', off', e, hc⟩ := SlSh.at hr (i := i) (by simpa using hi)
    simp only [Option.some.injEq, Addr.mk.injEq] at e
    obtain ⟨rfl, rfl, _⟩ := e
    exact ⟨b, off, ha, by rw [show off + (i + 1) * 6 = off + 6 + i * 6 from by omega]; simpa using hc⟩
theorem StSh.out {w : World} {P : Nat → Prop} {s : St} {b off : Nat} (h : StSh w P s b off) : P b ∧ s.thn.length ≤ maxLen ∧ s.els.length ≤ maxLen ∧ (∃ x0 x1 x2 x3 : Int,
      w.cell? ⟨b, off, none⟩ = some (.int .i64 x0) ∧ w.cell? ⟨b, off + 1, none⟩ = some (.int .i64 x1) ∧ w.cell? ⟨b, off + 2, none⟩ = some (.int .i64 x2) ∧ w.cell? ⟨b, off + 3, none⟩ = some (.int .i64 x3)) ∧
      ∃ at' ct ae ce, w.cell? ⟨b, off + 4, none⟩ = some (.slice at' s.thn.length ct) ∧ w.cell? ⟨b, off + 5, none⟩ = some (.slice ae s.els.length ce) ∧ SlSh w P s.thn at' ∧ SlSh w P s.els ae := by
  cases s with
  | mk op x y n t e => simp only [StSh] at h; exact h

/-- Four ints are stored. -/
def set4 (w : World) (b o : Nat) (k : Int) : World :=
  (((w.setCell ⟨b, o, none⟩ (.int .i64 k)).setCell ⟨b, o + 1, none⟩ (.int .i64 (k + 1))).setCell ⟨b, o + 2, none⟩ (.int .i64 (k + 1 + 1))).setCell ⟨b, o + 3, none⟩ (.int .i64 (k + 1 + 1 + 1))
theorem wr4 {w : World} {P : Nat → Prop} {b o : Nat} (k : Int) {x0 x1 x2 x3 : Int} (hp : P b) (c0 : w.cell? ⟨b, o, none⟩ = some (.int .i64 x0)) (c1 : w.cell? ⟨b, o + 1, none⟩ = some (.int .i64 x1)) (c2 : w.cell? ⟨b, o + 2, none⟩ = some (.int .i64 x2)) (c3 : w.cell? ⟨b, o + 3, none⟩ = some (.int .i64 x3)) :
    Wr P w (set4 w b o k) := by
  have h0 : Wr P w (w.setCell ⟨b, o, none⟩ (.int .i64 k)) := Wr.set hp c0 ⟨_, rfl⟩
  obtain ⟨_, d1⟩ := h0.int c1
  have h1 := h0.trans (Wr.set (u := .int .i64 (k + 1)) hp d1 ⟨_, rfl⟩)
  obtain ⟨_, d2⟩ := h1.int c2
  have h2 := h1.trans (Wr.set (u := .int .i64 (k + 1 + 1)) hp d2 ⟨_, rfl⟩)
  obtain ⟨_, d3⟩ := h2.int c3
  exact h2.trans (Wr.set hp d3 ⟨_, rfl⟩)

theorem IntsAt.gr {w w' : World} {P : Nat → Prop} {n : Nat} {a : Option Addr} (hI : IntsAt w P n a) (hg : Gr w w' none) : IntsAt w' P n a := by
  intro i hi
  obtain ⟨b, off, x, e, hd, hc⟩ := hI i hi
  exact ⟨b, off, x, e, hd, hg.cell hc (by simp)⟩
mutual
theorem StSh.gr {P : Nat → Prop} {w w' : World} (h : Gr w w' none) : ∀ (s : St) (b off : Nat), StSh w P s b off → StSh w' P s b off
  | .mk _ _ _ _ t e, b, off, hs => by
    simp only [StSh] at hs ⊢
    obtain ⟨h0, ht, he, ⟨x0, x1, x2, x3, c0, c1, c2, c3⟩, at', ct, ae, ce, c4, c5, r4, r5⟩ := hs
    exact ⟨h0, ht, he, ⟨x0, x1, x2, x3, h.cell c0 (by simp), h.cell c1 (by simp), h.cell c2 (by simp), h.cell c3 (by simp)⟩, at', ct, ae, ce, h.cell c4 (by simp), h.cell c5 (by simp), SlSh.gr h t at' r4, SlSh.gr h e ae r5⟩
theorem SlSh.gr {P : Nat → Prop} {w w' : World} (h : Gr w w' none) : ∀ (l : List St) (a : Option Addr), SlSh w P l a → SlSh w' P l a
  | [], _, _ => by simp [SlSh]
  | s :: r, a, hs => by
    simp only [SlSh] at hs ⊢
    obtain ⟨b, off, ha, h1, h2⟩ := hs
    exact ⟨b, off, ha, StSh.gr h s b off h1, SlSh.gr h r _ h2⟩
end
/-- Marks were written: a number that is not negative comes back. -/
def MarkedP (P : Nat → Prop) (w : World) (e : Ending) (w' : World) : Prop := ∃ r : Int, e = .returned (.int .i64 r) ∧ 0 ≤ r ∧ ∃ w1, Gr w w1 none ∧ Wr P w1 w'
def MarkedQ (P : Nat → Prop) (w : World) (e : Ending) (w' : World) : Prop := ∃ r : Int, e = .returned (.int .i64 r) ∧ 0 ≤ r ∧ r ≤ 8388608 ∧ ∃ w1, Gr w w1 none ∧ Wr P w1 w'
end Go.Proofs.Ytadidppbhpdnkaa

/- Walks of the laws' own helpers: marks that are written over ints, and looks at them. -/
import Derived.Test.YtjlnfmiekmliaaaH4
namespace Go.Proofs.Ytjlnfmiekmliaaa
open Go.RowKit

/-- An int stays an int, a bool a bool; all else stays as it is. -/
def Like : Value → Value → Prop
  | .int k _, u => ∃ m, u = .int k m
  | .bool _, u => ∃ b, u = .bool b
  | v, u => u = v
theorem Like.refl (v : Value) : Like v v := by cases v <;> simp [Like]
theorem Like.trans {a b c : Value} (h : Like a b) (h' : Like b c) : Like a c := by
  cases a <;> simp only [Like] at h <;> (try (obtain ⟨m, rfl⟩ := h)) <;> (try subst h) <;> simp_all [Like]
theorem Like.int {k : IntKind} {n : Int} {u : Value} (h : Like (.int k n) u) : ∃ m, u = .int k m := h
theorem Like.bool {b : Bool} {u : Value} (h : Like (.bool b) u) : ∃ m, u = .bool m := h
theorem Like.slice {a : Option Addr} {n c : Nat} {u : Value} (h : Like (.slice a n c) u) : u = .slice a n c := h
/-- Marks are written in blocks P: each cell keeps its kind. -/
structure Wr (P : Nat → Prop) (w w' : World) : Prop where
  os : w'.os = w.os
  tape : w'.tape = w.tape
  output : w'.output = w.output
  size : w'.heap.size = w.heap.size
  block : ∀ k, ¬ P k → w'.heap[k]? = w.heap[k]?
  like : ∀ a v, w.cell? a = some v → ∃ u, w'.cell? a = some u ∧ Like v u
  frz : ∀ a, w'.frozen? a = w.frozen? a
theorem Wr.refl (P : Nat → Prop) (w : World) : Wr P w w := ⟨rfl, rfl, rfl, rfl, fun _ _ => rfl, fun _ v h => ⟨v, h, Like.refl v⟩, fun _ => rfl⟩
theorem Wr.trans {P : Nat → Prop} {a b c : World} (h : Wr P a b) (k : Wr P b c) : Wr P a c :=
  ⟨k.os.trans h.os, k.tape.trans h.tape, k.output.trans h.output, k.size.trans h.size, fun i hi => (k.block i hi).trans (h.block i hi), fun x v hv => by
    obtain ⟨u, hu, l1⟩ := h.like x v hv
    obtain ⟨t, ht, l2⟩ := k.like x u hu
    exact ⟨t, ht, l1.trans l2⟩, fun x => (k.frz x).trans (h.frz x)⟩
theorem Wr.set {P : Nat → Prop} {w : World} {p : Addr} {v u : Value} (hp : P p.block) (hc : w.cell? p = some v) (hl : Like v u) : Wr P w (w.setCell p u) :=
  ⟨rfl, rfl, rfl, by simp [World.setCell], fun k hk => Below.heap_setCell w p u k (by intro e; exact hk (e ▸ hp)), fun a x hx => by
    by_cases e : p = a
    · subst e
      rw [hc] at hx
      cases hx
      exact ⟨u, World.cell?_setCell_same _ _ _ hc, hl⟩
    · exact ⟨x, by rw [World.cell?_setCell_other _ _ _ _ e]; exact hx, Like.refl x⟩, fun a => World.frozen?_setCell _ _ _ _⟩
theorem Wr.mono {P Q : Nat → Prop} {w w' : World} (h : Wr P w w') (hPQ : ∀ k, P k → Q k) : Wr Q w w' :=
  ⟨h.os, h.tape, h.output, h.size, fun k hk => h.block k fun hp => hk (hPQ k hp), h.like, h.frz⟩
theorem Wr.cell {P : Nat → Prop} {w w' : World} (h : Wr P w w') {a : Addr} {v : Value} (hc : w.cell? a = some v) (hn : ¬ P a.block) : w'.cell? a = some v := by
  unfold World.cell? at hc ⊢
  rw [h.block _ hn]
  exact hc
theorem Wr.slice {P : Nat → Prop} {w w' : World} (h : Wr P w w') {a : Addr} {x : Option Addr} {n c : Nat} (hc : w.cell? a = some (.slice x n c)) : w'.cell? a = some (.slice x n c) := by
  obtain ⟨u, hu, hl⟩ := h.like a _ hc
  rw [hu, Like.slice hl]
theorem Wr.int {P : Nat → Prop} {w w' : World} (h : Wr P w w') {a : Addr} {x : Int} (hc : w.cell? a = some (.int .i64 x)) : ∃ y, w'.cell? a = some (.int .i64 y) := by
  obtain ⟨u, hu, hl⟩ := h.like a _ hc
  obtain ⟨m, rfl⟩ := hl.int
  exact ⟨m, hu⟩
/-- What is written is new. -/
theorem Wr.gr {P : Nat → Prop} {a w w' : World} (h : Wr P w w') (hg : Gr a w none) (hP : ∀ k, P k → a.heap.size ≤ k) : Gr a w' none :=
  ⟨h.os.trans hg.os, h.tape.trans hg.tape, h.output.trans hg.output, by rw [h.size]; exact hg.size, fun k hk hr => (h.block k (fun hp => by have := hP k hp; omega)).trans (hg.block k hk hr)⟩
theorem InAt.wr {P : Nat → Prop} {w w' : World} {D : Nat → Nat → Prop} (h : Wr P w w') (hD : ∀ b o, D b o → ¬ P b) {l : List Int} {a : Option Addr} (hI : InAt w D l a) : InAt w' D l a :=
  InAt.mono (fun _ _ h => h) (fun b _ _ hd hc => h.cell hc (hD b _ hd)) l a hI
theorem SlAt.wr {P : Nat → Prop} {w w' : World} {D : Nat → Nat → Prop} (h : Wr P w w') (hD : ∀ b o, D b o → ¬ P b) {l : List St} {a : Option Addr} (hI : SlAt w D l a) : SlAt w' D l a :=
  SlAt.mono (fun _ _ h => h) (fun b _ _ hd _ _ hc => h.cell hc (hD b _ hd)) l a hI

/-- The numbers k, k + 1, .. -/
def upFrom (k : Int) (n : Nat) : List Int := (List.range n).map fun (i : Nat) => k + i
theorem upFrom_length (k : Int) (n : Nat) : (upFrom k n).length = n := by simp [upFrom]
theorem upFrom_get {k : Int} {n j : Nat} (h : j < (upFrom k n).length) : (upFrom k n)[j] = k + j := by simp [upFrom]
/-- Some ints lie there: n of them, in D. -/
def IntsAt (w : World) (D : Nat → Prop) (n : Nat) (a : Option Addr) : Prop := ∀ i, i < n → ∃ b off x, a = some ⟨b, off, none⟩ ∧ D b ∧ w.cell? ⟨b, off + i, none⟩ = some (.int .i64 x)
theorem IntsAt.wr {P D : Nat → Prop} {w w' : World} (h : Wr P w w') {n : Nat} {a : Option Addr} (hI : IntsAt w D n a) : IntsAt w' D n a := by
  intro i hi
  obtain ⟨b, off, x, e, hd, hc⟩ := hI i hi
  obtain ⟨y, hy⟩ := h.int hc
  exact ⟨b, off, y, e, hd, hy⟩
theorem InAt.ints {w : World} {D : Nat → Nat → Prop} {P : Nat → Prop} {l : List Int} {a : Option Addr} (hI : InAt w D l a) (hD : ∀ b o, D b o → P b) : IntsAt w P l.length a := by
  intro i hi
  obtain ⟨b, off, e, hd, hc⟩ := hI.at hi
  exact ⟨b, off, _, e, hD _ _ hd, hc⟩
/-- Marked: the ints from k on lie there. -/
def MarkedI (P : Nat → Prop) (n : Nat) (a : Option Addr) (k : Int) (w : World) (e : Ending) (w' : World) : Prop :=
  e = .returned (.int .i64 (k + n)) ∧ Wr P w w' ∧ InAt w' (fun b _ => P b) (upFrom k n) a
theorem inAt_up {w : World} {P : Nat → Prop} {n : Nat} {a : Option Addr} {k : Int} (h : ∀ i, i < n → ∃ b off, a = some ⟨b, off, none⟩ ∧ P b ∧ w.cell? ⟨b, off + i, none⟩ = some (.int .i64 (k + i))) : InAt w (fun b _ => P b) (upFrom k n) a := by
  by_cases hn : n = 0
  · subst hn; simp [upFrom, InAt]
  · obtain ⟨b, off, rfl, hp, _⟩ := h 0 (by omega)
    refine InAt.of fun i hi => ?_
    obtain ⟨b', off', e, _, hc⟩ := h i (by rw [upFrom_length] at hi; exact hi)
    cases e
    exact ⟨hp, by rw [upFrom_get]; exact hc⟩

set_option maxHeartbeats 1000000 in
theorem markIntS_any (P : Nat → Prop) (n : Nat) (a : Option Addr) (c : Nat) (k : Int) (w : World) (h : IntsAt w P n a) (hf : ∀ a : Addr, P a.block → w.frozen? a = false) (hn : n ≤ 1048576) (hk0 : 0 ≤ k) (hk : k ≤ 1099511627776) :
    Calls Try.prog 30 #[.slice a n c, .int .i64 k] w (MarkedI P n a k w) := by
  go_enter Try.func30, Try.ntmps30
  go_wp2
  go_loopw [1, 5] (fun k' i wr => ∃ j : Nat, j ≤ n ∧ i = .int .i64 j ∧ k' = .int .i64 (k + j) ∧ Wr P w wr ∧ ∀ i, i < j → ∃ b off, a = some ⟨b, off, none⟩ ∧ P b ∧ wr.cell? ⟨b, off + i, none⟩ = some (.int .i64 (k + i))) (fun _ i _ => n - (intOf i).toNat)
  case atStart => exact ⟨0, Nat.zero_le _, rfl, by simp, Wr.refl _ _, fun i hi => absurd hi (by omega)⟩
  case round =>
    obtain ⟨j, hj, rfl, rfl, hW, hall⟩ := hrel
    have HA := Lib.hid hall
    clear hall
    by_cases hlt : j < n
    · obtain ⟨b, off, x, rfl, hp, hc⟩ := h j hlt
      obtain ⟨y, hy⟩ := hW.int hc
      have hfz : wr.frozen? ⟨b, off + j, none⟩ = false := by rw [hW.frz]; exact hf ⟨b, off + j, none⟩ hp
      have HF := Lib.hid hf
      clear hc hf
      go_wp2_with fail
      go_roundw
      case rel =>
        have hS : Wr P wr (wr.setCell ⟨b, off + j, none⟩ (.int .i64 (k + j))) := Wr.set (by exact hp) hy ⟨_, rfl⟩
        refine ⟨j + 1, by omega, by go_num, by go_num, hW.trans hS, fun i hi => ⟨b, off, rfl, hp, ?_⟩⟩
        by_cases e : i = j
        · subst e; exact World.cell?_setCell_same _ _ _ hy
        · rw [World.cell?_setCell_other _ _ _ _ (by first | (simp; done) | (simp; omega))]
          obtain ⟨b', off', e', _, hc'⟩ := HA.out i (by omega)
          cases e'
          exact hc'
      case measure => simp [intOf]; omega
    · obtain rfl : j = n := by omega
      go_wp2
      go_ret
      exact ⟨rfl, hW, inAt_up HA.out⟩

theorem heldIntS_any (n : Nat) (a : Option Addr) (c : Nat) (k : Int) (w : World) (h : InAt w Any (upFrom k n) a) (hn : n ≤ 1048576) (hk0 : 0 ≤ k) (hk : k ≤ 1099511627776) :
    Calls Try.prog 31 #[.slice a n c, .int .i64 k] w fun e w' => e = .returned (.int .i64 (k + n)) ∧ w = w' := by
  go_enter Try.func31, Try.ntmps31
  go_wp2
  go_loop [1, 5] (fun k' i => ∃ j : Nat, j ≤ n ∧ i = .int .i64 j ∧ k' = .int .i64 (k + j)) (fun _ i => n - (intOf i).toNat)
  case atStart => exact ⟨0, Nat.zero_le _, rfl, by simp⟩
  case round =>
    obtain ⟨j, hj, rfl, rfl⟩ := hrel
    by_cases hlt : j < n
    · obtain ⟨b, off, rfl, _, hc⟩ := h.at (i := j) (by rw [upFrom_length]; exact hlt)
      rw [upFrom_get] at hc
      go_wp2_with fail
      go_round
      case rel => exact ⟨j + 1, by omega, by go_num, by go_num⟩
      case measure => simp [intOf]; omega
    · obtain rfl : j = n := by omega
      go_wp2
      go_ret
      exact ⟨rfl, rfl⟩
end Go.Proofs.Ytjlnfmiekmliaaa

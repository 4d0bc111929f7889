/- Walks of the laws' own helpers: size, copies. -/
/- Walks of the laws' own helpers: copies of a program. -/
/- Walks of the laws' own helpers: copies of a program's statements. -/
/- Walks of the laws' own helpers: a copy of a program. -/
import Derived.Test.YtadidppbhpdnkaaV5

import Derived.Laws.MakeOwn

import Derived.Deep.OwnRows

namespace Go.Proofs.Ytadidppbhpdnkaa

open Go.RowKit

/-! ### Size -/

def Sized (c : Nat) (left : Int) (w : World) (e : Ending) (w' : World) : Prop :=
  ∃ r : Int, e = .returned (.int .i64 r) ∧ ((0 ≤ r ∧ r = left - c) ∨ (r = -1 ∧ left < c)) ∧ Gr w w' none
theorem count_take_ge (l : List St) (k : Nat) (h : k ≤ l.length) : St.count (l.take k) + (l.length - k) ≤ St.count l := by
  induction l generalizing k with
  | nil => simp [St.count]
  | cons s r ih =>
    have h1 : r.length ≤ St.count r := by
      clear ih h
      induction r with
      | nil => simp
      | cons s r ih => simp only [List.length_cons, St.count]; omega
    cases k with
    | zero => simp only [List.take_zero, St.count, List.length_cons]; omega
    | succ k => have := ih k (by simpa using h); simp only [List.take_succ_cons, St.count, List.length_cons]; omega
theorem length_count (l : List St) : l.length ≤ St.count l := by have := count_take_ge l 0 (Nat.zero_le _); simp [St.count] at this; exact this

def Pr.size (p : Pr) : Nat := p.types.length + St.count p.body
end Go.Proofs.Ytadidppbhpdnkaa

namespace Go.Proofs.Ytadidppbhpdnkaa

open Go.RowKit

/-- Nothing that is new is frozen. -/
def Unf (w w' : World) : Prop := ∀ a : Addr, w.heap.size ≤ a.block → w'.frozen? a = false
theorem Unf.refl (w : World) : Unf w w := by
  intro a h
  unfold World.frozen?
  rw [Array.getElem?_eq_none h]
theorem Unf.alloc {w w' : World} (h : Unf w w') (c : Array Value) (t : TypeId) : Unf w (w'.alloc (.cells c t)) := fun a ha => (frozen?_alloc_cells _ _ _ _).trans (h a ha)
theorem Unf.set {w w' : World} (h : Unf w w') (p : Addr) (v : Value) : Unf w (w'.setCell p v) := fun a ha => (World.frozen?_setCell _ _ _ _).trans (h a ha)
theorem Unf.trans {w a b : World} (h : Unf w a) (hg : Gr a b none) (h2 : Unf a b) : Unf w b := by
  intro p hp
  by_cases hlt : p.block < a.heap.size
  · rw [hg.frozen hlt (by simp)]; exact h p hp
  · exact h2 p (by omega)

theorem row_set {w : World} {g k : Nat} {arr : Array Value} {t : TypeId} {f : Nat × Nat} (v : Value) (h : w.heap[g]? = some (.cells arr t f)) : (w.setCell ⟨g, k, none⟩ v).heap[g]? = some (.cells (arr.setIfInBounds k v) t f) := by
  have hlt := lt_of_block h
  have h' : w.heap[g] = .cells arr t f := by simpa [Array.getElem?_eq_getElem hlt] using h
  show (w.heap.modify g _)[g]? = _
  rw [Array.getElem?_eq_getElem (by simpa using hlt), Array.getElem_modify_self, h']
  rfl

theorem Iinfo : (Try.prog.info? 3).map (fun i => (i.zero, i.size, i.bytes)) = some (some (.int .i64 0), 1, 8) := by kernel_rfl

/-- A row of ints of the call's own, of which the first k are those of l. -/
def Filling (w : World) (g : Nat) (l : List Int) (k : Nat) : Prop :=
  ∃ arr : Array Value, w.heap[g]? = some (.cells arr 3 (0, 0)) ∧ arr.size = l.length ∧ ∀ j (h : j < l.length), j < k → arr[j]? = some (.int .i64 l[j])
theorem Filling.cell {w : World} {g k : Nat} {l : List Int} (h : Filling w g l k) {j : Nat} (hj : j < l.length) : ∃ v, w.cell? ⟨g, j, none⟩ = some v := by
  obtain ⟨arr, h1, h2, _⟩ := h
  exact ⟨arr[j]'(by omega), by rw [cell_of_row w g j _ _ _ h1]; simp [h2, hj]⟩
theorem Filling.free {w : World} {g k : Nat} {l : List Int} (h : Filling w g l k) (j : Nat) : w.frozen? ⟨g, j, none⟩ = false := by
  obtain ⟨arr, h1, _⟩ := h
  simp [World.frozen?, h1]
theorem Filling.step {w : World} {g k : Nat} {l : List Int} (h : Filling w g l k) (hk : k < l.length) : Filling (w.setCell ⟨g, k, none⟩ (.int .i64 l[k])) g l (k + 1) := by
  obtain ⟨arr, h1, h2, h3⟩ := h
  refine ⟨_, row_set _ h1, by simpa using h2, fun j hj hjk => ?_⟩
  by_cases e : j = k
  · subst e; simp [h2, hj]
  · rw [Array.getElem?_setIfInBounds_ne (by omega)]; exact h3 j hj (by omega)
theorem Filling.done {w : World} {g : Nat} {l : List Int} (h : Filling w g l l.length) {B : Nat} (hB : B ≤ g) : InAt w (fun b _ => B ≤ b) l (some ⟨g, 0, none⟩) := by
  obtain ⟨arr, h1, h2, h3⟩ := h
  exact InAt.of fun i hi => ⟨hB, by rw [cell_of_row w g (0 + i) _ _ _ h1, Nat.zero_add]; exact h3 i hi hi⟩

/-- A copy of ints. -/
def Copied (l : List Int) (w : World) (e : Ending) (w' : World) : Prop :=
  ∃ (g : Nat), e = .returned (.slice (some ⟨g, 0, none⟩) l.length l.length) ∧ InAt w' (fun b _ => w.heap.size ≤ b) l (some ⟨g, 0, none⟩) ∧ Gr w w' none ∧ Unf w w'
end Go.Proofs.Ytadidppbhpdnkaa

namespace Go.Proofs.Ytadidppbhpdnkaa

open Go.RowKit

/-- Where copies lie. -/
def Fresh (B : Nat) (b o : Nat) : Prop := B ≤ b ∧ o % 6 = 0
/-- A copied list of statements. -/
def CopiedS (l : List St) (w : World) (e : Ending) (w' : World) : Prop :=
  ∃ (g : Nat), e = .returned (.slice (some ⟨g, 0, none⟩) l.length l.length) ∧ SlAt w' (Fresh w.heap.size) l (some ⟨g, 0, none⟩) ∧ Gr w w' none ∧ Unf w w'
/-- A copied statement: its lists are new. -/
def CopiedT (s : St) (w : World) (e : Ending) (w' : World) : Prop :=
  ∃ (g1 g2 : Nat), e = .returned (.agg #[.int .i64 s.op, .int .i64 s.x, .int .i64 s.y, .int .i64 s.n, .slice (some ⟨g1, 0, none⟩) s.thn.length s.thn.length, .slice (some ⟨g2, 0, none⟩) s.els.length s.els.length]) ∧
    SlAt w' (Fresh w.heap.size) s.thn (some ⟨g1, 0, none⟩) ∧ SlAt w' (Fresh w.heap.size) s.els (some ⟨g2, 0, none⟩) ∧ Gr w w' none ∧ Unf w w'
/-- Six cells are stored. -/
def set6 (w : World) (g o : Nat) (v0 v1 v2 v3 v4 v5 : Value) : World :=
  (((((w.setCell ⟨g, o, none⟩ v0).setCell ⟨g, o + 1, none⟩ v1).setCell ⟨g, o + 2, none⟩ v2).setCell ⟨g, o + 3, none⟩ v3).setCell ⟨g, o + 4, none⟩ v4).setCell ⟨g, o + 5, none⟩ v5

theorem Sinfo : (Try.prog.info? 96).map (fun i => (i.zero, i.size, i.bytes)) = some (some (.agg #[.int .i64 0, .int .i64 0, .int .i64 0, .int .i64 0, .slice none 0 0, .slice none 0 0]), 6, 80) := by kernel_rfl
def zero6 : Array Value := #[.int .i64 0, .int .i64 0, .int .i64 0, .int .i64 0, .slice none 0 0, .slice none 0 0]
theorem run_make_stmts (n : Nat) (hn : n ≤ 1048576) (w : World) :
    (Instr.makeSlice 24 (.int .i64 (n : Int)) (.int .i64 (n : Int))).run Try.prog w = .ok (.slice (some ⟨w.heap.size, 0, none⟩) n n) (w.alloc (.cells (madeCells zero6 (n * 6)) 96)) := by
  obtain ⟨i0, hi, hz0, hz1, hz2⟩ := info_parts Sinfo
  have h := run_make (P := Try.prog) w 24 96 i0 _ Try.underlying24 hi hz0 .i64 .i64 n n (by omega) (Int.le_refl _) (by rw [hz2]; omega) (by omega)
  rw [hz1] at h
  simp only [Int.toNat_natCast] at h
  exact h
/-- A row of statements of the call's own, of which the first k are those of l. -/
def FillS (B : Nat) (w : World) (g : Nat) (l : List St) (k : Nat) : Prop :=
  (∃ arr : Array Value, w.heap[g]? = some (.cells arr 96 (0, 0)) ∧ arr.size = l.length * 6) ∧ ∀ j (h : j < l.length), j < k → StAt w (fun b o => B ≤ b ∧ o % 6 = 0 ∧ (b = g → o < k * 6)) l[j] g (j * 6)
theorem FillS.cell {B : Nat} {w : World} {g k : Nat} {l : List St} (h : FillS B w g l k) {o : Nat} (ho : o < l.length * 6) : ∃ v, w.cell? ⟨g, o, none⟩ = some v := by
  obtain ⟨⟨arr, h1, h2⟩, _⟩ := h
  exact ⟨arr[o]'(by omega), by rw [cell_of_row w g o _ _ _ h1]; simp [h2, ho]⟩
theorem FillS.free {B : Nat} {w : World} {g k : Nat} {l : List St} (h : FillS B w g l k) (o : Nat) : w.frozen? ⟨g, o, none⟩ = false := by
  obtain ⟨⟨arr, h1, _⟩, _⟩ := h
  simp [World.frozen?, h1]
theorem FillS.lt {B : Nat} {w : World} {g k : Nat} {l : List St} (h : FillS B w g l k) : g < w.heap.size := by
  obtain ⟨⟨arr, h1, _⟩, _⟩ := h
  exact lt_of_block h1
theorem FillS.gr {B : Nat} {w w' : World} {g k : Nat} {l : List St} (h : FillS B w g l k) (hg : Gr w w' none) : FillS B w' g l k := by
  have hlt := h.lt
  obtain ⟨⟨arr, h1, h2⟩, h3⟩ := h
  exact ⟨⟨arr, (hg.block g hlt (by simp)).trans h1, h2⟩, fun j hj hk => StAt.mono (fun _ _ h => h) (fun b o v hd i hi hc => hg.cell hc (by simp)) _ _ _ (h3 j hj hk)⟩
theorem set_heap6 {w : World} {g o : Nat} {arr : Array Value} {t : TypeId} {v0 v1 v2 v3 v4 v5 : Value} (h : w.heap[g]? = some (.cells arr t (0, 0))) :
    (set6 w g o v0 v1 v2 v3 v4 v5).heap[g]? = some (.cells ((((((arr.setIfInBounds o v0).setIfInBounds (o + 1) v1).setIfInBounds (o + 2) v2).setIfInBounds (o + 3) v3).setIfInBounds (o + 4) v4).setIfInBounds (o + 5) v5) t (0, 0)) :=
  row_set _ (row_set _ (row_set _ (row_set _ (row_set _ (row_set _ h)))))
theorem set_gr6 (w : World) (g o : Nat) (v0 v1 v2 v3 v4 v5 : Value) : Gr w (set6 w g o v0 v1 v2 v3 v4 v5) (some g) :=
  ((((((Gr.refl w (some g)).setOwn rfl _).setOwn rfl _).setOwn rfl _).setOwn rfl _).setOwn rfl _).setOwn rfl _
theorem FillS.step {B : Nat} {w : World} {g k : Nat} {l : List St} (h : FillS B w g l k) (hB : B ≤ g) (hk : k < l.length) {s : St} (hs : l[k] = s) {G g1 g2 c1 c2 : Nat} (hG : g < G) (_hGB : B ≤ G) (h1 : SlAt w (Fresh G) s.thn (some ⟨g1, 0, none⟩)) (h2 : SlAt w (Fresh G) s.els (some ⟨g2, 0, none⟩))
    (ht : s.thn.length ≤ maxLen) (he : s.els.length ≤ maxLen) :
    FillS B (set6 w g (k * 6) (.int .i64 s.op) (.int .i64 s.x) (.int .i64 s.y) (.int .i64 s.n) (.slice (some ⟨g1, 0, none⟩) s.thn.length c1) (.slice (some ⟨g2, 0, none⟩) s.els.length c2)) g l (k + 1) := by
  have hlt := h.lt
  obtain ⟨⟨arr, a1, a2⟩, h3⟩ := h
  have hh := set_heap6 (o := k * 6) (v0 := .int .i64 s.op) (v1 := .int .i64 s.x) (v2 := .int .i64 s.y) (v3 := .int .i64 s.n) (v4 := .slice (some ⟨g1, 0, none⟩) s.thn.length c1) (v5 := .slice (some ⟨g2, 0, none⟩) s.els.length c2) a1
  have hgr := set_gr6 w g (k * 6) (.int .i64 s.op) (.int .i64 s.x) (.int .i64 s.y) (.int .i64 s.n) (.slice (some ⟨g1, 0, none⟩) s.thn.length c1) (.slice (some ⟨g2, 0, none⟩) s.els.length c2)
  generalize set6 w g (k * 6) (.int .i64 s.op) (.int .i64 s.x) (.int .i64 s.y) (.int .i64 s.n) (.slice (some ⟨g1, 0, none⟩) s.thn.length c1) (.slice (some ⟨g2, 0, none⟩) s.els.length c2) = w' at *
  refine ⟨⟨_, hh, by simpa using a2⟩, fun j hj hjk => ?_⟩
  by_cases e : j = k
  · subst e
    rw [hs]
    have hsub : ∀ (m : List St) (a : Option Addr), SlAt w (Fresh G) m a → SlAt w' (fun b o => B ≤ b ∧ o % 6 = 0 ∧ (b = g → o < (j + 1) * 6)) m a := fun m a hm =>
      (hm.gr hgr (fun b o hd e => by injection e with e; have := hd.1; omega)).mono (fun b o hd => ⟨by have := hd.1; omega, hd.2, fun e => by have := hd.1; omega⟩) (fun _ _ _ _ _ _ h => h)
    refine StAt.into ⟨⟨hB, by omega, fun _ => by omega⟩, ht, he, some ⟨g1, 0, none⟩, c1, some ⟨g2, 0, none⟩, c2, ?_, ?_, ?_, ?_, ?_, ?_, hsub _ _ h1, hsub _ _ h2⟩
    · rw [cell_of_row _ _ _ _ _ _ hh]; simp [Array.getElem?_setIfInBounds, a2]; omega
    · rw [cell_of_row _ _ _ _ _ _ hh]; simp [Array.getElem?_setIfInBounds, a2]; omega
    · rw [cell_of_row _ _ _ _ _ _ hh]; simp [Array.getElem?_setIfInBounds, a2]; omega
    · rw [cell_of_row _ _ _ _ _ _ hh]; simp [Array.getElem?_setIfInBounds, a2]; omega
    · rw [cell_of_row _ _ _ _ _ _ hh]; simp [Array.getElem?_setIfInBounds, a2]; omega
    · rw [cell_of_row _ _ _ _ _ _ hh]; simp [Array.getElem?_setIfInBounds, a2]; omega
  · refine StAt.mono (fun b o hd => ⟨hd.1, hd.2.1, fun e => by have := hd.2.2 e; omega⟩) (fun b o v hd i hi hc => ?_) _ _ _ (h3 j hj (by omega))
    by_cases eb : b = g
    · subst eb
      have hlt2 := hd.2.2 rfl
      have hm := hd.2.1
      rw [cell_of_row _ _ _ _ _ _ a1] at hc
      rw [cell_of_row _ _ _ _ _ _ hh]
      simp only [Array.getElem?_setIfInBounds]
      rw [if_neg (by omega), if_neg (by omega), if_neg (by omega), if_neg (by omega), if_neg (by omega), if_neg (by omega)]
      exact hc
    · exact hgr.cell hc (fun e => eb (by injection e with e; exact e.symm))
theorem FillS.done {B : Nat} {w : World} {g : Nat} {l : List St} (h : FillS B w g l l.length) : SlAt w (Fresh B) l (some ⟨g, 0, none⟩) :=
  SlAt.of fun i hi => by
    have := StAt.mono (D' := Fresh B) (fun b o hd => ⟨hd.1, hd.2.1⟩) (fun _ _ _ _ _ _ h => h) _ _ _ (h.2 i hi hi)
    simpa using this

end Go.Proofs.Ytadidppbhpdnkaa

namespace Go.Proofs.Ytadidppbhpdnkaa

open Go.RowKit

/-- A copied program. -/
def CopiedP (p : Pr) (w : World) (e : Ending) (w' : World) : Prop :=
  ∃ (g1 g2 : Nat), e = .returned (.agg #[.slice (some ⟨g1, 0, none⟩) p.types.length p.types.length, .slice (some ⟨g2, 0, none⟩) p.body.length p.body.length]) ∧
    InAt w' (fun b _ => w.heap.size ≤ b) p.types (some ⟨g1, 0, none⟩) ∧ SlAt w' (Fresh w.heap.size) p.body (some ⟨g2, 0, none⟩) ∧ Gr w w' none ∧ Unf w w'

end Go.Proofs.Ytadidppbhpdnkaa

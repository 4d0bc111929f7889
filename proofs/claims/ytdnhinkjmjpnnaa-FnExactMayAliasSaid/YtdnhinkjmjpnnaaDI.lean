/- Plain laws: rounds over all points whose rows are added in parts; rows of words for each variable. -/
import Derived.Test.YtdnhinkjmjpnnaaDP

import Derived.Test.YtdnhinkjmjpnnaaF2

import Derived.Test.YtdnhinkjmjpnnaaY3

namespace Go.Proofs.Ytdnhinkjmjpnnaa

open Go.RowKit

section

variable {β : Type}

/-- At the point a, whose row is R: Q tells to which rows which parts of it have been added. -/
def FwJ (B : List (Nat × β)) (L : List Pt) (I : β → Prop) (A : Nat → (β → Prop) → β → Prop) (F0 F : Nat → β → Bool) (c : Bool) (a : Nat) (R : β → Bool) (Q : Nat → β → Prop) : Prop :=
  FwOk L I A F ∧ (∀ i b, F0 i b = true → F i b = true) ∧ (c = true → cntG B F0 < cntG B F) ∧ (∀ b, R b = true → A a (Least (FwS L I A) a) b) ∧
  (c = false → F = F0 ∧ (∀ i, i < a → ∀ k ∈ nextOf L i, ∀ b, A i (fun b => F i b = true) b → F k b = true) ∧ (∀ b, A a (fun b => F a b = true) b → R b = true) ∧
    ∀ k b, Q k b → R b = true → F k b = true)
variable {B : List (Nat × β)} {L : List Pt} {I : β → Prop} {A : Nat → (β → Prop) → β → Prop} {F0 F : Nat → β → Bool} {c : Bool} {a : Nat} {R : β → Bool} {Q Q' : Nat → β → Prop}

theorem FwR.enterJ (hA : MonoA A) (h : FwR B L I A F0 F c a) (hR : ∀ b, R b = true ↔ A a (fun b => F a b = true) b) : FwJ B L I A F0 F c a R (fun _ _ => False) := by
  obtain ⟨h1, h2, h3, h4⟩ := h
  exact ⟨h1, h2, h3, fun b hb => hA a _ _ (fun b hb => h1.1 a b hb) b ((hR b).1 hb), fun hc => ⟨(h4 hc).1, (h4 hc).2, fun b => (hR b).2, fun _ _ hq => hq.elim⟩⟩
theorem FwJ.mono (h : FwJ B L I A F0 F c a R Q) (hQ : ∀ k b, Q' k b → R b = true → Q k b) : FwJ B L I A F0 F c a R Q' := by
  obtain ⟨h1, h2, h3, h4, h5⟩ := h
  exact ⟨h1, h2, h3, h4, fun hc => ⟨(h5 hc).1, (h5 hc).2.1, (h5 hc).2.2.1, fun k b hq hr => (h5 hc).2.2.2 k b (hQ k b hq hr) hr⟩⟩
theorem FwJ.same (h : FwJ B L I A F0 F c a R Q) (hQ : ∀ k b, Q' k b → R b = true → Q k b ∨ F k b = true) : FwJ B L I A F0 F c a R Q' := by
  obtain ⟨h1, h2, h3, h4, h5⟩ := h
  refine ⟨h1, h2, h3, h4, fun hc => ⟨(h5 hc).1, (h5 hc).2.1, (h5 hc).2.2.1, fun k b hq hr => ?_⟩⟩
  rcases hQ k b hq hr with hq | hq
  · exact (h5 hc).2.2.2 k b hq hr
  · exact hq
theorem FwJ.change (hA : MonoA A) (ha : a < L.length) (h : FwJ B L I A F0 F c a R Q) {k : Nat} (hk : k ∈ nextOf L a) {R' : β → Bool} (hR : ∀ b, R' b = true → R b = true) {b : β} (hB : (k, b) ∈ B) (hb : R' b = true) (hn : F k b = false) : FwJ B L I A F0 (mrg F k R') true a R Q' := by
  obtain ⟨h1, h2, h3, h4, h5⟩ := h
  refine ⟨h1.mrg hA ha (fun b hb => h4 b (hR b hb)) hk, fun i b hb => mrg_ge _ _ _ _ _ (h2 i b hb), fun _ => ?_, h4, fun h => by cases h⟩
  exact Nat.lt_of_le_of_lt (cntG_mono h2) (cntG_lt (fun i b hb => mrg_ge _ _ _ _ _ hb) hB hn (mrg_at _ _ _ _ hb))
theorem FwJ.exit (h : FwJ B L I A F0 F c a R Q) (hQ : ∀ k ∈ nextOf L a, ∀ b, R b = true → Q k b) : FwR B L I A F0 F c (a + 1) := by
  obtain ⟨h1, h2, h3, h4, h5⟩ := h
  refine ⟨h1, h2, h3, fun hc => ?_⟩
  obtain ⟨e1, e2, e3, e4⟩ := h5 hc
  refine ⟨e1, fun i hi k hk b hb => ?_⟩
  by_cases e : i = a
  · subst e
    exact e4 k b (hQ k hk b (e3 b hb)) (e3 b hb)
  · exact e2 i (by omega) k hk b hb
end

/-! ### Words for each point and variable -/

/-- Words as a table of bits. -/
def tb2 (W : Nat → Nat → Nat) : Nat → Nat × Nat → Bool := fun i b => (W i b.1).testBit b.2
def upd2 (W : Nat → Nat → Nat) (i v x : Nat) : Nat → Nat → Nat := fun k u => if k = i ∧ u = v then x else W k u
theorem upd2_lt {W : Nat → Nat → Nat} {i v x N : Nat} (h : ∀ i v, W i v < 2 ^ N) (hx : x < 2 ^ N) : ∀ k u, upd2 W i v x k u < 2 ^ N := by
  intro k u; unfold upd2; split
  · exact hx
  · exact h k u
/-- The part of a row of words that is of the variable v. -/
def rowV (O : Nat → Nat) (v : Nat) (b : Nat × Nat) : Bool := decide (b.1 = v) && (O b.1).testBit b.2
def rowW (O : Nat → Nat) (b : Nat × Nat) : Bool := decide (b.1 < 6) && (O b.1).testBit b.2
theorem tb2_or (W : Nat → Nat → Nat) (O : Nat → Nat) (k v : Nat) : tb2 (upd2 W k v (W k v ||| O v)) = mrg (tb2 W) k (rowV O v) := by
  funext i b
  unfold tb2 upd2 mrg rowV
  by_cases e : i = k
  · subst e
    by_cases e2 : b.1 = v
    · subst e2; simp [Nat.testBit_or]
    · simp [e2]
  · simp [e]
def boxL2 (n : Nat) : List (Nat × (Nat × Nat)) := (List.range n).flatMap fun i => (List.range 6).flatMap fun v => (List.range 64).map fun k => (i, (v, k))
theorem boxL2_mem {n i v k : Nat} (hi : i < n) (hv : v < 6) (hk : k < 64) : (i, (v, k)) ∈ boxL2 n := by
  unfold boxL2
  rw [List.mem_flatMap]
  refine ⟨i, List.mem_range.2 hi, ?_⟩
  rw [List.mem_flatMap]
  exact ⟨v, List.mem_range.2 hv, List.mem_map.2 ⟨k, List.mem_range.2 hk, rfl⟩⟩
theorem or_ne {a b : Nat} (ha : a < 2 ^ 64) (hb : b < 2 ^ 64) (h : a ||| b ≠ a) : ∃ k, k < 64 ∧ b.testBit k = true ∧ a.testBit k = false := by
  obtain ⟨k, hk, hne⟩ := bit_ne (Nat.or_lt_two_pow ha hb) ha h
  refine ⟨k, hk, ?_⟩
  rw [Nat.testBit_or] at hne
  cases h1 : a.testBit k <;> cases h2 : b.testBit k <;> simp [h1, h2] at hne ⊢
theorem or_same {a b k : Nat} (h : a ||| b = a) (hb : b.testBit k = true) : a.testBit k = true := by
  have := congrArg (fun x => x.testBit k) h
  simp only [Nat.testBit_or, hb, Bool.or_true] at this
  exact this.symm

/-! ### What variables can have -/

/-- What is known behind a point: val tells what the variable that it sets gets. -/
def trkA (T : List Int) (L : List Pt) (val : Nat → (Nat × Nat → Prop) → Nat → Prop) (i : Nat) (Y : Nat × Nat → Prop) (b : Nat × Nat) : Prop :=
  if setOf (ptAt L i).op (ptAt L i).x = (b.1 : Int) then val i Y b.2 else takesB T (ptAt L i).op (ptAt L i).x (ptAt L i).y b.1 = false ∧ Y b
def MonoV (val : Nat → (Nat × Nat → Prop) → Nat → Prop) : Prop := ∀ i (Y Z : Nat × Nat → Prop), (∀ b, Y b → Z b) → ∀ k, val i Y k → val i Z k
theorem trkA_mono {T : List Int} {L : List Pt} {val : Nat → (Nat × Nat → Prop) → Nat → Prop} (h : MonoV val) : MonoA (trkA T L val) := by
  intro i Y Z hYZ b hb
  unfold trkA at *
  split
  · rename_i e; rw [if_pos e] at hb; exact h i Y Z hYZ _ hb
  · rename_i e; rw [if_neg e] at hb; exact ⟨hb.1, hYZ _ hb.2⟩
/-- What is known before each point of what each variable can have. -/
def Trk (p : Pr) (val : Nat → (Nat × Nat → Prop) → Nat → Prop) : Nat → Nat × Nat → Prop := Least (FwS (pts p) (fun _ => False) (trkA p.types (pts p) val))
/-- The words behind a point. -/
def aftW (s : Int) (tk : Nat → Bool) (V : Nat) (O : Nat → Nat) (v : Nat) : Nat := if s = (v : Int) then V else if tk v = true then 0 else O v
theorem aftW_row {T : List Int} {L : List Pt} {val : Nat → (Nat × Nat → Prop) → Nat → Prop} {i : Nat} {W : Nat → Nat → Nat} {V : Nat} {s : Int} {tk : Nat → Bool} (hs : setOf (ptAt L i).op (ptAt L i).x = s) (hs6 : s < 6) (ht : ∀ v, tk v = takesB T (ptAt L i).op (ptAt L i).x (ptAt L i).y v) (hT : ∀ v b, 6 ≤ v → (W i v).testBit b = false)
    (hV : 0 ≤ s → ∀ k, V.testBit k = true ↔ val i (fun b => tb2 W i b = true) k) (b : Nat × Nat) : rowW (aftW s tk V (W i)) b = true ↔ trkA T L val i (fun b => tb2 W i b = true) b := by
  unfold rowW trkA aftW
  rw [hs, Bool.and_eq_true, decide_eq_true_eq]
  by_cases e : s = (b.1 : Int)
  · rw [if_pos e, if_pos e, hV (by omega)]
    constructor
    · exact fun h => h.2
    · exact fun h => ⟨by omega, h⟩
  · rw [if_neg e, if_neg e, ← ht]
    cases h : tk b.1 with
    | true => simp
    | false =>
      simp only [Bool.false_eq_true, if_false, true_and]
      constructor
      · exact fun h => h.2
      · intro h
        refine ⟨?_, h⟩
        rcases Nat.lt_or_ge b.1 6 with h6 | h6
        · exact h6
        · unfold tb2 at h; rw [hT _ _ h6] at h; cases h
/-- The parts that have been added: to the first j of what comes next all, to the next one what is of the variables below u. -/
def QV (N : List Nat) (j u : Nat) (k : Nat) (b : Nat × Nat) : Prop := (∃ j', j' < j ∧ N[j']? = some k) ∨ (b.1 < u ∧ N[j]? = some k)
theorem QV.next {N : List Nat} {j : Nat} {O : Nat → Nat} (k : Nat) (b : Nat × Nat) (h : QV N (j + 1) 0 k b) (hr : rowW O b = true) : QV N j 6 k b := by
  have h6 : b.1 < 6 := by unfold rowW at hr; simp at hr; exact hr.1
  rcases h with ⟨j', h1, h2⟩ | ⟨h, _⟩
  · by_cases e : j' = j
    · subst e; exact .inr ⟨h6, h2⟩
    · exact .inl ⟨j', by omega, h2⟩
  · omega
theorem QV.step {N : List Nat} {j u x : Nat} (hx : N[j]? = some x) {W : Nat → Nat → Nat} {O : Nat → Nat} (hs : W x u ||| O u = W x u) (k : Nat) (b : Nat × Nat) (h : QV N j (u + 1) k b) (hr : rowW O b = true) : QV N j u k b ∨ tb2 W k b = true := by
  rcases h with h | ⟨h1, h2⟩
  · exact .inl (.inl h)
  · by_cases e : b.1 = u
    · refine .inr ?_
      rw [hx] at h2
      obtain rfl : x = k := by simpa using h2
      subst e
      unfold rowW at hr
      simp only [Bool.and_eq_true] at hr
      exact or_same hs hr.2
    · exact .inl (.inr ⟨by omega, h2⟩)
theorem QV.exit {L : List Pt} {a j : Nat} (hj : (nextOf L a).length ≤ j) (k : Nat) (hk : k ∈ nextOf L a) (b : Nat × Nat) : QV (nextOf L a) j 0 k b := by
  obtain ⟨j', hj', rfl⟩ := List.getElem_of_mem hk
  exact .inl ⟨j', by omega, List.getElem?_eq_getElem hj'⟩
theorem rowV_le {O : Nat → Nat} {v : Nat} (hv : v < 6) (b : Nat × Nat) (h : rowV O v b = true) : rowW O b = true := by
  unfold rowV at h; unfold rowW
  simp only [Bool.and_eq_true, decide_eq_true_eq] at h ⊢
  exact ⟨by omega, h.2⟩

/-! ### A block of rows of six words -/

def FRow (w : World) (g n : Nat) (W : Nat → Nat → Nat) : Prop := ∃ arr : Array Value, w.heap[g]? = some (.cells arr 83 (0, 0)) ∧ arr.size = n * 6 ∧ ∀ i v, i < n → v < 6 → arr[i * 6 + v]? = some (.int .u64 (W i v : Nat))
theorem FRow.cell {w : World} {g n : Nat} {W : Nat → Nat → Nat} (h : FRow w g n W) {i v : Nat} (hi : i < n) (hv : v < 6) : w.cell? ⟨g, i * 6 + v, none⟩ = some (.int .u64 (W i v : Nat)) := by
  obtain ⟨arr, h1, h2, h3⟩ := h
  rw [cell_of_row w g _ _ _ _ h1]; exact h3 i v hi hv
theorem FRow.free {w : World} {g n : Nat} {W : Nat → Nat → Nat} (h : FRow w g n W) (j : Nat) : w.frozen? ⟨g, j, none⟩ = false := by
  obtain ⟨arr, h1, _⟩ := h
  simp [World.frozen?, h1]
theorem FRow.lt {w : World} {g n : Nat} {W : Nat → Nat → Nat} (h : FRow w g n W) : g < w.heap.size := by
  obtain ⟨arr, h1, _⟩ := h
  exact lt_of_block h1
theorem FRow.gr {w w' : World} {g n : Nat} {W : Nat → Nat → Nat} {row : Option Nat} (h : FRow w g n W) (hg : Gr w w' row) (hr : row ≠ some g) : FRow w' g n W := by
  have hlt := h.lt
  obtain ⟨arr, h1, h2, h3⟩ := h
  exact ⟨arr, by rw [hg.block g hlt (fun e => hr e.symm)]; exact h1, h2, h3⟩
theorem FRow.gr0 {w w' : World} {g n : Nat} {W : Nat → Nat → Nat} (h : FRow w g n W) (hg : Gr w w' none) : FRow w' g n W := h.gr hg (by simp)
theorem FRow.set {w : World} {g n : Nat} {W : Nat → Nat → Nat} (h : FRow w g n W) (i v x : Nat) (hv : v < 6) : FRow (w.setCell ⟨g, i * 6 + v, none⟩ (.int .u64 (x : Nat))) g n (upd2 W i v x) := by
  obtain ⟨arr, h1, h2, h3⟩ := h
  refine ⟨_, row_set _ h1, by simpa using h2, fun k u hk hu => ?_⟩
  unfold upd2
  by_cases e : k = i ∧ u = v
  · obtain ⟨rfl, rfl⟩ := e
    rw [if_pos ⟨rfl, rfl⟩, Array.getElem?_setIfInBounds_self, if_pos (by rw [h2]; omega)]
  · rw [if_neg e, Array.getElem?_setIfInBounds_ne (by intro h; apply e; omega), h3 k u hk hu]
theorem Finfo : (Try.prog.info? 83).map (fun i => (i.zero, i.size, i.bytes)) = some (some (.agg (words fun _ => 0)), 6, 48) := by kernel_rfl
def fzero : Array Value := #[.int .u64 0, .int .u64 0, .int .u64 0, .int .u64 0, .int .u64 0, .int .u64 0]
theorem run_make6 (n : Nat) (hn : n ≤ 1000) (w : World) : (Instr.makeSlice 116 (.int .i64 (n : Int)) (.int .i64 (n : Int))).run Try.prog w = .ok (.slice (some ⟨w.heap.size, 0, none⟩) n n) (w.alloc (.cells (madeCells fzero (n * 6)) 83)) := by
  obtain ⟨i, hi, hzz⟩ := Option.map_eq_some_iff.1 Finfo
  simp only [Prod.mk.injEq] at hzz
  obtain ⟨hz, hs, hb⟩ := hzz
  have hr := run_make (P := Try.prog) w 116 83 i _ Try.underlying116 hi hz .i64 .i64 n n (by omega) (Int.le_refl _) (by rw [hb]; omega) (by omega)
  simp only [Int.toNat_natCast, hs] at hr
  exact hr
theorem FRow.new (w : World) (n : Nat) : FRow (w.alloc (.cells (madeCells fzero (n * 6)) 83)) w.heap.size n (fun _ _ => 0) := by
  refine ⟨_, heap1_0 _ _, by simp [madeCells], fun i v hi hv => ?_⟩
  unfold madeCells
  have h1 : i * 6 + v < n * 6 := by omega
  have h2 : (i * 6 + v) % fzero.size = v := by show (i * 6 + v) % 6 = v; omega
  simp only [Array.getElem?_map, Array.getElem?_range, h1, if_true, Option.map_some, h2]
  match v, hv with
  | 0, _ => rfl
  | 1, _ => rfl
  | 2, _ => rfl
  | 3, _ => rfl
  | 4, _ => rfl
  | 5, _ => rfl

theorem zero_step {O : Nat → Nat} {l : List Int} {k j : Nat} (h : k < l.length) (e : l[k] = (j : Int)) (v : Nat) : updW (fun v => if (v : Int) ∈ l.take k then 0 else O v) j 0 v = if (v : Int) ∈ l.take (k + 1) then 0 else O v := by
  unfold updW
  rw [List.take_succ_eq_append_getElem h, e]
  by_cases e2 : v = j
  · subst e2; simp
  · have : ¬ (v : Int) = (j : Int) := by omega
    simp [e2, this]
/-- What a function that tells what is set says. -/
def Tells (val : Nat → (Nat × Nat → Prop) → Nat → Prop) (i : Nat) (O : Nat → Nat) (w : World) (e : Ending) (w' : World) : Prop :=
  ∃ V : Nat, e = .returned (.int .u64 (V : Nat)) ∧ V < 2 ^ 64 ∧ (∀ k, V.testBit k = true ↔ val i (fun b => (O b.1).testBit b.2 = true) k) ∧ Gr w w' none
def Tracked (p : Pr) (val : Nat → (Nat × Nat → Prop) → Nat → Prop) (w : World) (e : Ending) (w' : World) : Prop :=
  ∃ (g : Nat) (W : Nat → Nat → Nat), e = .returned (.slice (some ⟨g, 0, none⟩) (pts p).length (pts p).length) ∧ FRow w' g (pts p).length W ∧ (∀ i v, W i v < 2 ^ 64) ∧ (∀ i b, tb2 W i b = true ↔ Trk p val i b) ∧ Gr w w' none
open Classical in

/-- Can v have k before the point a? -/
noncomputable def trkB (p : Pr) (val : Nat → (Nat × Nat → Prop) → Nat → Prop) (a v k : Nat) : Bool := decide (Trk p val a (v, k))
theorem trkB_iff {p : Pr} {val : Nat → (Nat × Nat → Prop) → Nat → Prop} {a v k : Nat} : trkB p val a v k = true ↔ Trk p val a (v, k) := by unfold trkB; simp
end Go.Proofs.Ytdnhinkjmjpnnaa

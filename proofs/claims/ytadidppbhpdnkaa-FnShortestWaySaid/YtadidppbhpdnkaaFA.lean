/- Rows of ints of the call's own; slices.Reverse of ints. -/
import Derived.Test.YtadidppbhpdnkaaZ8

import Derived.Test.YtadidppbhpdnkaaW2

namespace Go.Proofs.Ytadidppbhpdnkaa

open Go.RowKit

/-- The ints V lie in the block g. -/
def IRow (w : World) (g n : Nat) (V : Nat → Int) : Prop := ∃ arr : Array Value, w.heap[g]? = some (.cells arr 3 (0, 0)) ∧ arr.size = n ∧ ∀ j, j < n → arr[j]? = some (.int .i64 (V j))
theorem IRow.cell {w : World} {g n : Nat} {V : Nat → Int} (h : IRow w g n V) {j : Nat} (hj : j < n) : w.cell? ⟨g, j, none⟩ = some (.int .i64 (V j)) := by
  obtain ⟨arr, h1, h2, h3⟩ := h
  rw [cell_of_row w g j _ _ _ h1]; exact h3 j hj
theorem IRow.free {w : World} {g n : Nat} {V : Nat → Int} (h : IRow w g n V) (j : Nat) : w.frozen? ⟨g, j, none⟩ = false := by
  obtain ⟨arr, h1, _⟩ := h
  simp [World.frozen?, h1]
theorem IRow.lt {w : World} {g n : Nat} {V : Nat → Int} (h : IRow w g n V) : g < w.heap.size := by
  obtain ⟨arr, h1, _⟩ := h
  exact lt_of_block h1
theorem IRow.gr {w w' : World} {g n : Nat} {V : Nat → Int} {row : Option Nat} (h : IRow w g n V) (hg : Gr w w' row) (hr : row ≠ some g) : IRow w' g n V := by
  have hlt := h.lt
  obtain ⟨arr, h1, h2, h3⟩ := h
  exact ⟨arr, by rw [hg.block g hlt (fun e => hr e.symm)]; exact h1, h2, h3⟩
theorem IRow.gr0 {w w' : World} {g n : Nat} {V : Nat → Int} (h : IRow w g n V) (hg : Gr w w' none) : IRow w' g n V := h.gr hg (by simp)
theorem IRow.congr {w : World} {g n : Nat} {V U : Nat → Int} (h : IRow w g n V) (e : ∀ j, j < n → V j = U j) : IRow w g n U := by
  obtain ⟨arr, h1, h2, h3⟩ := h
  exact ⟨arr, h1, h2, fun j hj => by rw [← e j hj]; exact h3 j hj⟩
theorem IRow.set {w : World} {g n : Nat} {V : Nat → Int} (h : IRow w g n V) (k : Nat) (x : Int) : IRow (w.setCell ⟨g, k, none⟩ (.int .i64 x)) g n (fun j => if j = k then x else V j) := by
  obtain ⟨arr, h1, h2, h3⟩ := h
  refine ⟨_, row_set _ h1, by simpa using h2, fun j hj => ?_⟩
  by_cases e : j = k
  · subst e; simp [h2, hj]
  · rw [Array.getElem?_setIfInBounds_ne (fun h => e h.symm), h3 j hj]; simp [e]
theorem IRow.new (w : World) (n : Nat) : IRow (w.alloc (.cells (madeCells #[.int .i64 0] n) 3)) w.heap.size n (fun _ => 0) :=
  ⟨_, heap1_0 _ _, by simp [madeCells], fun j hj => by
    rw [← Array.getElem?_toList, toList_madeCells_one, List.getElem?_replicate, if_pos hj]⟩
/-- A table's entry as a number. -/
def tI : Option Nat → Int
  | some a => a
  | none => -1
theorem tI_neg {o : Option Nat} : decide (tI o < 0) = o.isNone := by
  cases o with
  | none => rfl
  | some a => exact decide_eq_false (by simp only [tI]; omega)
theorem tI_ge {o : Option Nat} : decide (0 ≤ tI o) = o.isSome := by
  cases o with
  | none => rfl
  | some a => simp [tI]
theorem IRow.upd {w : World} {g n : Nat} {T : Tab} (h : IRow w g n (fun j => tI (T j))) (k a : Nat) : IRow (w.setCell ⟨g, k, none⟩ (.int .i64 (a : Int))) g n (fun j => tI (updT T k a j)) :=
  (h.set k (a : Int)).congr fun j _ => by unfold updT; split <;> rfl

/-! ### Reverse -/

/-- The first i and the last i have been exchanged. -/
def revV (l : List Int) (i t : Nat) : Int := if t < i ∨ l.length ≤ t + i then l.getD (l.length - 1 - t) 0 else l.getD t 0
def RevTo (w : World) (l : List Int) (g off i : Nat) : Prop := ∀ t, t < l.length → w.cell? ⟨g, off + t, none⟩ = some (.int .i64 (revV l i t)) ∧ w.frozen? ⟨g, off + t, none⟩ = false
theorem RevTo.step {w : World} {l : List Int} {g off i : Nat} (h : RevTo w l g off i) (hi : 2 * i + 1 < l.length) :
    RevTo ((w.setCell ⟨g, off + i, none⟩ (.int .i64 (revV l i (l.length - 1 - i)))).setCell ⟨g, off + (l.length - 1 - i), none⟩ (.int .i64 (revV l i i))) l g off (i + 1) := by
  intro t ht
  obtain ⟨h1, h2⟩ := h t ht
  obtain ⟨j, hj⟩ : ∃ j, l.length - 1 - i = j := ⟨_, rfl⟩
  rw [hj]
  have ej : revV l i j = l.getD j 0 := by unfold revV; rw [if_neg (by omega)]
  have ei : revV l i i = l.getD i 0 := by unfold revV; rw [if_neg (by omega)]
  refine ⟨?_, by simpa [World.frozen?_setCell] using h2⟩
  by_cases e1 : t = j
  · subst e1
    rw [World.cell?_setCell_same' _ _ _ (by rw [World.cell?_setCell_other _ _ _ _ (by simp <;> omega), h1]; rfl)]
    have : revV l (i + 1) t = l.getD i 0 := by unfold revV; rw [if_pos (by omega), show l.length - 1 - t = i by omega]
    rw [this, ei]
  · rw [World.cell?_setCell_other _ _ _ _ (by simp <;> omega)]
    by_cases e2 : t = i
    · subst e2
      rw [World.cell?_setCell_same' _ _ _ (by rw [h1]; rfl)]
      have : revV l (t + 1) t = l.getD j 0 := by unfold revV; rw [if_pos (by omega), hj]
      rw [this, ej]
    · rw [World.cell?_setCell_other _ _ _ _ (by simp <;> omega), h1]
      have : revV l (i + 1) t = revV l i t := by
        unfold revV
        by_cases hc : t < i ∨ l.length ≤ t + i
        · rw [if_pos hc, if_pos (by omega)]
        · rw [if_neg hc, if_neg (by omega)]
      rw [this]
theorem RevTo.done {w : World} {l : List Int} {g off i : Nat} (h : RevTo w l g off i) (hi : l.length ≤ 2 * i + 1) : InAt w Any l.reverse (some ⟨g, off, none⟩) := by
  refine InAt.of fun t ht => ⟨trivial, ?_⟩
  have ht' : t < l.length := by simpa using ht
  rw [(h t ht').1, List.getElem_reverse]
  unfold revV
  by_cases hc : t < i ∨ l.length ≤ t + i
  · rw [if_pos hc, List.getD_eq_getElem?_getD, List.getElem?_eq_getElem (by omega)]; rfl
  · rw [if_neg hc, List.getD_eq_getElem?_getD, List.getElem?_eq_getElem ht']
    have : l.length - 1 - t = t := by omega
    simp [this]
theorem RevTo.start {w : World} {l : List Int} {g off : Nat} (h : InAt w Any l (some ⟨g, off, none⟩)) (hf : ∀ x : Addr, x.block = g → w.frozen? x = false) : RevTo w l g off 0 := by
  intro t ht
  obtain ⟨b', o', e, -, hc⟩ := h.at ht
  cases e
  refine ⟨?_, hf _ rfl⟩
  rw [hc]
  unfold revV
  rw [if_neg (by omega), List.getD_eq_getElem?_getD, List.getElem?_eq_getElem ht]; rfl
set_option maxRecDepth 100000 in
set_option maxHeartbeats 2000000 in
theorem rev_any (l : List Int) (g off c : Nat) (w : World) (h : InAt w Any l (some ⟨g, off, none⟩)) (hl : l.length ≤ 1048576) (hf : ∀ x : Addr, x.block = g → w.frozen? x = false) :
    Calls Try.prog 89 #[.slice (some ⟨g, off, none⟩) l.length c] w fun e w' => e = .returned (.tuple #[]) ∧ InAt w' Any l.reverse (some ⟨g, off, none⟩) ∧ (∀ x, w'.frozen? x = w.frozen? x) ∧ Gr w w' (some g) := by
  have HS := Lib.hid (RevTo.start h hf)
  clear h hf
  by_cases h0 : l.length = 0
  · have HD := Lib.hid (HS.out.done (by omega))
    go_enter Try.func89, Try.ntmps89
    go_wp2_with fail
    go_loop [2, 3] (fun s u => s = .int .i64 0 ∧ u = .int .i64 (-1)) (fun _ _ => 0)
    case atStart => exact ⟨rfl, rfl⟩
    case round =>
      obtain ⟨rfl, rfl⟩ := hrel
      go_wp2_with fail
      go_end0
      exact ⟨rfl, HD.out, fun _ => rfl, Gr.refl _ _⟩
  · have hw1 : IntKind.i64.wrap ((l.length : Int) - 1) = ((l.length - 1 : Nat) : Int) := by rw [IntWalk.i64_in _ (by omega)]; omega
    go_enter Try.func89, Try.ntmps89
    go_wp2_with fail
    go_loopw [2, 3] (fun s u wr => ∃ i : Nat, 2 * i ≤ l.length ∧ s = .int .i64 i ∧ u = .int .i64 ((l.length : Int) - 1 - i) ∧ RevTo wr l g off i ∧ (∀ x, wr.frozen? x = w.frozen? x) ∧ Gr w wr (some g)) (fun s _ _ => l.length - (intOf s).toNat)
    case atStart => exact ⟨0, by omega, rfl, by go_num, HS.out, fun _ => rfl, Gr.refl _ _⟩
    case round =>
      obtain ⟨i, hi, rfl, rfl, hR, hfz, hg⟩ := hrel
      have HR := Lib.hid hR
      have HF := Lib.hid hfz
      have HG := Lib.hid hg
      by_cases hlt : 2 * i + 1 < l.length
      · obtain ⟨c1, f1⟩ := hR i (by omega)
        obtain ⟨c2, f2⟩ := hR (l.length - 1 - i) (by omega)
        have hj : (l.length : Int) - 1 - i = ((l.length - 1 - i : Nat) : Int) := by omega
        have HN := Lib.hid (hR.step hlt)
        obtain ⟨j, hje⟩ : ∃ j, l.length - 1 - i = j := ⟨_, rfl⟩
        rw [hje] at c2 f2 hj HN
        rw [hj]
        have hjl : j < l.length := by omega
        have hil : i < l.length := by omega
        have hij : i < j := by omega
        have hwi : IntKind.i64.wrap ((i : Int) + 1) = ((i + 1 : Nat) : Int) := by rw [IntWalk.i64_in _ (by omega)]; omega
        have hwj : IntKind.i64.wrap ((j : Int) - 1) = (j : Int) - 1 := IntWalk.i64_in _ (by omega)
        obtain ⟨x, hx⟩ : ∃ x, revV l i i = x := ⟨_, rfl⟩
        obtain ⟨y, hy⟩ : ∃ y, revV l i j = y := ⟨_, rfl⟩
        rw [hx] at c1 HN
        rw [hy] at c2 HN
        clear hR hfz hg hx hy
        go_wp2_with fail
        go_region
        all_goals
          go_wp2_with fail
          go_roundw
          case rel => exact ⟨i + 1, by omega, by go_num, by go_num, HN.out, fun x => by simpa [World.frozen?_setCell] using HF.out x, ((HG.out.drew).setOwn rfl _).setOwn rfl _⟩
          case measure => simp [intOf]; omega
      · have HD := Lib.hid (HR.out.done (by omega))
        have hd : ¬ (i : Int) < (l.length : Int) - 1 - i := by omega
        clear hR hfz hg
        go_wp2_with fail
        go_end0
        exact ⟨rfl, HD.out, HF.out, HG.out⟩
end Go.Proofs.Ytadidppbhpdnkaa

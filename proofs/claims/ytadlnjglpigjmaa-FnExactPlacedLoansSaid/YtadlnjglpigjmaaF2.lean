/- Words in an array of six. Walks of regions, RegionOf, Outlives of the program. -/
import Derived.Test.YtadlnjglpigjmaaZ7

import Derived.Test.YtadlnjglpigjmaaF1

import Derived.Test.YtadlnjglpigjmaaN8

import Derived.Deep.WholeRow

namespace Go.Proofs.Ytadlnjglpigjmaa

open Go.RowKit

/-! ### Six words -/

def words (O : Nat → Nat) : Array Value := #[.int .u64 (O 0 : Nat), .int .u64 (O 1 : Nat), .int .u64 (O 2 : Nat), .int .u64 (O 3 : Nat), .int .u64 (O 4 : Nat), .int .u64 (O 5 : Nat)]
theorem words_at (O : Nat → Nat) {v : Nat} (h : v < 6) : (words O)[v]? = some (.int .u64 (O v : Nat)) := by
  match v, h with
  | 0, _ => rfl
  | 1, _ => rfl
  | 2, _ => rfl
  | 3, _ => rfl
  | 4, _ => rfl
  | 5, _ => rfl
theorem words_upd (O : Nat → Nat) {v : Nat} (x : Nat) (h : v < 6) : (words O).setIfInBounds v (.int .u64 (x : Nat)) = words (updW O v x) := by
  match v, h with
  | 0, _ => rfl
  | 1, _ => rfl
  | 2, _ => rfl
  | 3, _ => rfl
  | 4, _ => rfl
  | 5, _ => rfl
def Words (w : World) (g : Nat) (O : Nat → Nat) : Prop := w.heap[g]? = some (.cells (words O) 82 (0, 0))
theorem Words.cell {w : World} {g : Nat} {O : Nat → Nat} (h : Words w g O) {v : Nat} (hv : v < 6) : w.cell? ⟨g, v, none⟩ = some (.int .u64 (O v : Nat)) := by
  rw [cell_of_row w g v _ _ _ h]; exact words_at O hv
theorem Words.free {w : World} {g : Nat} {O : Nat → Nat} (h : Words w g O) (v : Nat) : w.frozen? ⟨g, v, none⟩ = false := by
  unfold Words at h
  simp [World.frozen?, h]
theorem Words.lt {w : World} {g : Nat} {O : Nat → Nat} (h : Words w g O) : g < w.heap.size := lt_of_block h
theorem Words.gr {w w' : World} {g : Nat} {O : Nat → Nat} {row : Option Nat} (h : Words w g O) (hg : Gr w w' row) (hr : row ≠ some g) : Words w' g O := by
  have hlt := h.lt
  unfold Words at *
  rw [hg.block g hlt (fun e => hr e.symm)]; exact h
theorem Words.gr0 {w w' : World} {g : Nat} {O : Nat → Nat} (h : Words w g O) (hg : Gr w w' none) : Words w' g O := h.gr hg (by simp)
theorem Words.set {w : World} {g : Nat} {O : Nat → Nat} (h : Words w g O) {v : Nat} (x : Nat) (hv : v < 6) : Words (w.setCell ⟨g, v, none⟩ (.int .u64 (x : Nat))) g (updW O v x) := by
  unfold Words at *
  rw [← words_upd O x hv]
  exact row_set _ h
theorem Words.congr {w : World} {g : Nat} {O O' : Nat → Nat} (h : Words w g O) (e : ∀ v, v < 6 → O v = O' v) : Words w g O' := by
  unfold Words words at *
  rw [← e 0 (by omega), ← e 1 (by omega), ← e 2 (by omega), ← e 3 (by omega), ← e 4 (by omega), ← e 5 (by omega)]; exact h
def setWords (w : World) (g : Nat) (O : Nat → Nat) : World :=
  (((((w.setCell ⟨g, 0, none⟩ (.int .u64 (O 0 : Nat))).setCell ⟨g, 1, none⟩ (.int .u64 (O 1 : Nat))).setCell ⟨g, 2, none⟩ (.int .u64 (O 2 : Nat))).setCell ⟨g, 3, none⟩ (.int .u64 (O 3 : Nat))).setCell ⟨g, 4, none⟩ (.int .u64 (O 4 : Nat))).setCell ⟨g, 5, none⟩ (.int .u64 (O 5 : Nat))
theorem Words.copy {w : World} {g : Nat} {Z : Nat → Nat} (h : Words w g Z) (O : Nat → Nat) : Words (setWords w g O) g O := by
  refine Words.congr ((((((h.set (v := 0) (O 0) (by omega)).set (v := 1) (O 1) (by omega)).set (v := 2) (O 2) (by omega)).set (v := 3) (O 3) (by omega)).set (v := 4) (O 4) (by omega)).set (v := 5) (O 5) (by omega)) fun v hv => ?_
  match v, hv with
  | 0, _ => rfl
  | 1, _ => rfl
  | 2, _ => rfl
  | 3, _ => rfl
  | 4, _ => rfl
  | 5, _ => rfl
theorem setWords_gr {a w : World} {g : Nat} {row : Option Nat} (h : Gr a w row) (hg : a.heap.size ≤ g) (O : Nat → Nat) : Gr a (setWords w g O) row := by
  unfold setWords
  exact (((((h.setNew hg _).setNew hg _).setNew hg _).setNew hg _).setNew hg _).setNew hg _
theorem Words.load {w : World} {g : Nat} {O : Nat → Nat} (h : Words w g O) : (loadVar 82 ⟨g, 0, none⟩).run Try.prog w = .ok (.agg (words O)) w :=
  run_loadVar_row _ _ 82 82 (words O) (0, 0) _ h Try.underlying82 rfl (by kernel_rfl)
theorem index_words (O : Nat → Nat) {j : Nat} (hj : j < 6) (w : World) : (Instr.index 82 (.agg (words O)) (.int .i64 j)).run Try.prog w = .ok (.int .u64 (O j : Nat)) w := by
  have h1 := words_at O hj
  have hn : (0 : Int) ≤ j ∧ (j : Int) < 6 := by omega
  simp [Instr.index, run_underlying Try.underlying82, asIntOf, hn, go_sem, hj, h1]
theorem results_cell {fn : Func} {p : Tmp} {ty : TypeId} (h : fn.results = #[.cell p ty]) (tmps : Array Value) (P : Program) (w : World) :
    (results fn tmps).run P w = ((asAddr (tmps.getD p undef)).run P w).andThen fun a w₁ => (loadVar ty a).run P w₁ := by
  simp only [results, h]
  simp [Sem.run_bind, Result.andThen]
  try rfl
/-- A word of the block. -/
def wordAt (w : World) (g v : Nat) : Nat := match w.cell? ⟨g, v, none⟩ with | some (.int _ x) => x.toNat | _ => 0
theorem Words.word {w : World} {g : Nat} {O : Nat → Nat} (h : Words w g O) {v : Nat} (hv : v < 6) : wordAt w g v = O v := by
  unfold wordAt; rw [h.cell hv]; simp
theorem Words.sum {w : World} {g : Nat} {O : Nat → Nat} (h : Words w g O) : sumW (wordAt w g) = sumW O := by
  unfold sumW; rw [h.word (v := 0) (by omega), h.word (v := 1) (by omega), h.word (v := 2) (by omega), h.word (v := 3) (by omega), h.word (v := 4) (by omega), h.word (v := 5) (by omega)]
theorem RowsAt.gr {s : Nat} {w w' : World} {row : Option Nat} {D : Nat → Nat → Prop} {L : List (List Value)} {a : Option Addr} (h : RowsAt s w D L a) (hg : Gr w w' row) (hD : ∀ b o, D b o → row ≠ some b) : RowsAt s w' D L a :=
  h.mono (fun _ _ h => h) (fun b o _ _ hd hc => hg.cell hc (hD b o hd))
theorem u64_pow {k : Nat} (hk : k < 64) : IntKind.u64.wrap ((2 : Int) ^ k) = ((2 ^ k : Nat) : Int) := by
  rw [pow_cast]
  have h1 : 2 ^ k < 2 ^ 64 := Nat.pow_lt_pow_right (by omega) hk
  exact wraps_u64 _ (Int.natCast_nonneg _) (by omega)
def boolOf : Value → Bool
  | .bool b => b
  | _ => false
def wMeas (w : World) (g : Nat) (c : Value) : Nat := wLeft (wordAt w g) (boolOf c)
theorem Words.meas {w : World} {g : Nat} {O : Nat → Nat} (h : Words w g O) (c : Bool) : wMeas w g (.bool c) = wLeft O c := by
  unfold wMeas wLeft boolOf; rw [h.sum]

/-! ### The program's regions -/

theorem valid_types {p : Pr} (h : validP p = true) : p.types.length ≤ 6 := by
  unfold validP typesOk at h
  simp only [Bool.and_eq_true, decide_eq_true_eq] at h
  have := h.1.1
  omega
theorem HandI.aft {l : List Int} {w0 w w' : World} {e : Ending} (h : HandI l w e w') (hg : Gr w0 w none) : HandI l w0 e w' := by
  obtain ⟨a, c, he, h1, h2, h3, h4⟩ := h
  exact ⟨a, c, he, h1, fun g hgo => ⟨Nat.le_trans hg.size (h2 g hgo).1, (h2 g hgo).2⟩, h3, hg.trans0 h4⟩
theorem within_var (p : Pr) (v : Int) : within v 0 ((p.types.length : Int) - 1) = (decide (0 ≤ v) && decide (v < p.types.length)) := by
  unfold within
  congr 1
  apply decide_eq_decide.2
  omega
theorem region_bits {p : Pr} {j : Nat} {x : Nat} (hv : validP p = true) (h : j < p.types.length) (hx : ∀ k, x.testBit k = regB p j k) (hm : (ptsOf p).length ≤ 64) : regionOf p j = coll x.testBit 64 := by
  rw [regionOf_in hv h, ← coll_up (F := regB p j) (fun k hk => regB_hi hk) 64 hm]
  exact coll_congr fun k _ => (hx k).symm
end Go.Proofs.Ytadlnjglpigjmaa

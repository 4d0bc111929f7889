/- Walks of the laws' own helpers: copies of a program. -/
import Derived.Test.YtjlnfmiekmliaaaH2
import Derived.Deep.OwnRows
namespace Go.Proofs.Ytjlnfmiekmliaaa
open Go.RowKit

/-- Nothing that is new is frozen. -/
def Unf (w w' : World) : Prop := ∀ a : Addr, w.heap.size ≤ a.block → w'.frozen? a = false
theorem Unf.refl (w : World) : Unf w w := by
  intro a h
  unfold World.frozen?
  rw [Array.getElem?_eq_none h]
theorem Unf.alloc {w w' : World} (h : Unf w w') (c : Array Value) (t : TypeId) : Unf w (w'.alloc (.cells c t)) := fun a ha => (frozen?_alloc_cells _ _ _ _).trans (h a ha)
theorem Unf.set {w w' : World} (h : Unf w w') (p : Addr) (v : Value) : Unf w (w'.setCell p v) := fun a ha => (World.frozen?_setCell _ _ _ _).trans (h a ha)
theorem Unf.trans {w a b : World} (h : Unf w a) (hg : Gr a b none) (h2 : Unf a b) : Unf w b := by
  intro p hp
  by_cases hlt : p.block < a.heap.size
  · rw [hg.frozen hlt (by simp)]; exact h p hp
  · exact h2 p (by omega)

theorem row_set {w : World} {g k : Nat} {arr : Array Value} {t : TypeId} {f : Nat × Nat} (v : Value) (h : w.heap[g]? = some (.cells arr t f)) : (w.setCell ⟨g, k, none⟩ v).heap[g]? = some (.cells (arr.setIfInBounds k v) t f) := by
  have hlt := lt_of_block h
  have h' : w.heap[g] = .cells arr t f := by simpa [Array.getElem?_eq_getElem hlt] using h
  show (w.heap.modify g _)[g]? = _
  rw [Array.getElem?_eq_getElem (by simpa using hlt), Array.getElem_modify_self, h']
  rfl

theorem Iinfo : (Try.prog.info? 3).map (fun i => (i.zero, i.size, i.bytes)) = some (some (.int .i64 0), 1, 8) := by kernel_rfl

/-- A row of ints of the call's own, of which the first k are those of l. -/
def Filling (w : World) (g : Nat) (l : List Int) (k : Nat) : Prop :=
  ∃ arr : Array Value, w.heap[g]? = some (.cells arr 3 (0, 0)) ∧ arr.size = l.length ∧ ∀ j (h : j < l.length), j < k → arr[j]? = some (.int .i64 l[j])
theorem Filling.cell {w : World} {g k : Nat} {l : List Int} (h : Filling w g l k) {j : Nat} (hj : j < l.length) : ∃ v, w.cell? ⟨g, j, none⟩ = some v := by
  obtain ⟨arr, h1, h2, _⟩ := h
  exact ⟨arr[j]'(by omega), by rw [cell_of_row w g j _ _ _ h1]; simp [h2, hj]⟩
theorem Filling.free {w : World} {g k : Nat} {l : List Int} (h : Filling w g l k) (j : Nat) : w.frozen? ⟨g, j, none⟩ = false := by
  obtain ⟨arr, h1, _⟩ := h
  simp [World.frozen?, h1]
theorem Filling.step {w : World} {g k : Nat} {l : List Int} (h : Filling w g l k) (hk : k < l.length) : Filling (w.setCell ⟨g, k, none⟩ (.int .i64 l[k])) g l (k + 1) := by
  obtain ⟨arr, h1, h2, h3⟩ := h
  refine ⟨_, row_set _ h1, by simpa using h2, fun j hj hjk => ?_⟩
  by_cases e : j = k
  · subst e; simp [h2, hj]
  · rw [Array.getElem?_setIfInBounds_ne (by omega)]; exact h3 j hj (by omega)
theorem Filling.done {w : World} {g : Nat} {l : List Int} (h : Filling w g l l.length) {B : Nat} (hB : B ≤ g) : InAt w (fun b _ => B ≤ b) l (some ⟨g, 0, none⟩) := by
  obtain ⟨arr, h1, h2, h3⟩ := h
  exact InAt.of fun i hi => ⟨hB, by rw [cell_of_row w g (0 + i) _ _ _ h1, Nat.zero_add]; exact h3 i hi hi⟩

/-- A copy of ints. -/
def Copied (l : List Int) (w : World) (e : Ending) (w' : World) : Prop :=
  ∃ (g : Nat), e = .returned (.slice (some ⟨g, 0, none⟩) l.length l.length) ∧ InAt w' (fun b _ => w.heap.size ≤ b) l (some ⟨g, 0, none⟩) ∧ Gr w w' none ∧ Unf w w'
set_option maxHeartbeats 1000000 in
theorem toIntS_any (l : List Int) (a : Option Addr) (c : Nat) (w : World) (h : InAt w Any l a) (hl : l.length ≤ 1048576) :
    Calls Try.prog 58 #[.slice a l.length c] w (Copied l w) := by
  have hmk := fun w : World => run_make_row' (P := Try.prog) 22 3 (.int .i64 0) 8 Try.underlying22 Iinfo rfl .i64 .i64 l.length (by omega) (by omega) w
  go_enter Try.func58, Try.ntmps58
  go_wp2
  have hF0 : Filling (w.alloc (.cells (madeCells #[.int .i64 0] l.length) 3)) w.heap.size l 0 := ⟨_, heap1_0 _ _, by simp [madeCells], by omega⟩
  have hU0 : Unf w (w.alloc (.cells (madeCells #[.int .i64 0] l.length) 3)) := (Unf.refl w).alloc _ _
  have hG0 : Gr w (w.alloc (.cells (madeCells #[.int .i64 0] l.length) 3)) none := (Gr.refl _ _).alloc _
  go_loopw [4] (fun i wr => ∃ k : Nat, k ≤ l.length ∧ i = .int .i64 k ∧ Filling wr w.heap.size l k ∧ Gr w wr none ∧ Unf w wr) (fun i _ => l.length - (intOf i).toNat)
  case atStart => exact ⟨0, Nat.zero_le _, rfl, hF0, hG0, hU0⟩
  case round =>
    obtain ⟨k, hk, rfl, hF, hG, hU⟩ := hrel
    clear hmk hF0 hU0 hG0
    by_cases hlt : k < l.length
    · obtain ⟨b, off, rfl, _, hc⟩ := (h.gr0 hG).at hlt
      obtain ⟨v, hv⟩ := hF.cell hlt
      have hf := hF.free k
      go_wp2_with fail
      go_roundw
      case rel => exact ⟨k + 1, by omega, by go_num, hF.step hlt, hG.setNew (Nat.le_refl _) _, hU.set _ _⟩
      case measure => simp [intOf]; omega
    · obtain rfl : k = l.length := by omega
      go_wp2
      go_ret
      exact ⟨_, rfl, hF.done (Nat.le_refl _), hG, hU⟩
end Go.Proofs.Ytjlnfmiekmliaaa

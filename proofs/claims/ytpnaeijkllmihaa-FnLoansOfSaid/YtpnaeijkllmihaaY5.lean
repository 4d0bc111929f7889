/- Plain laws: loans set references and reach; bounds are about references. -/
import Derived.Test.YtpnaeijkllmihaaY4

namespace Go.Proofs.Ytpnaeijkllmihaa

open Go.RowKit

theorem setBy_pt {p : Pr} {M : List Pt} {k : Nat} {q : Pt} (hM : M = ptsOf p) (hk : k < M.length) (hq : M[k] = q) (h1 : 1 ≤ q.op) (h6 : q.op ≤ 6) : setBy p k = q.x := by
  rw [setBy_in hM hk hq]; unfold setOf; rw [if_pos ⟨h1, h6⟩]
theorem ptAt_lt {M : List Pt} {k : Nat} (h : (ptAt M k).op ≠ 0) : k < M.length := by
  by_cases hk : k < M.length
  · exact hk
  · exfalso; apply h; unfold ptAt; rw [List.getD_eq_getElem?_getD, List.getElem?_eq_none (by omega)]; rfl
/-- What a loan says. -/
theorem loans_law {p : Pr} {r : List Value} (h : r ∈ loansOf p) : ∃ (k : Nat) (u : Bool) (y : Int) (x : Nat) (hx : x < p.types.length), k < (ptsOf p).length ∧ r = [.int .i64 k, .bool u, .int .i64 y] ∧ setBy p k = x ∧ isRef p.types[x] = true ∧ useOf p k y = 3 ∧ u = (p.types[x] == 4) := by
  obtain ⟨k, hr⟩ : ∃ k, r ∈ loanRow (ptsOf p) k := collR_mem (P := fun r => ∃ k, r ∈ loanRow (ptsOf p) k) (fun j r hr => ⟨j, hr⟩) _ r h
  unfold loanRow at hr
  split at hr
  · rename_i ho
    simp at hr
    have hop : (ptAt (ptsOf p) k).op = 4 ∨ (ptAt (ptsOf p) k).op = 5 := by simpa using ho
    have hk := ptAt_lt (M := ptsOf p) (k := k) (by omega)
    rw [ptAt_get hk] at hr hop
    have hs := pt_simple (p := p) rfl hk rfl
    have hset := fun h1 h6 => setBy_pt (p := p) rfl hk rfl h1 h6
    have huse := fun (j : Nat) (hj : j < p.types.length) => useOf_in (p := p) rfl hk hj rfl
    generalize (ptsOf p)[k] = q at *
    have hs' : simpleS p.types q.op q.x q.y q.n = true := by rcases hs with hs | hs | hs | hs; omega; omega; omega; exact hs
    obtain ⟨i, j, hi, hj, hil, hjl⟩ := simple_xy hs' (by omega)
    refine ⟨k, _, _, i, hil, hk, hr, by rw [hset (by omega) (by omega), hi], ?_, ?_, ?_⟩
    · rcases hop with e | e
      · rw [e, hi] at hs'; unfold simpleS at hs'; rw [tyOf_get hil] at hs'; simp at hs'; simp [isRef, hs'.2.1]
      · rw [e, hi] at hs'; unfold simpleS at hs'; rw [tyOf_get hil] at hs'; simp at hs'; simp [isRef, hs'.2.1]
    · rw [hj, huse j hjl, hj]
      unfold useK
      rw [if_neg (by omega), if_pos (by omega), if_pos rfl]
    · rcases hop with e | e
      · rw [e, hi] at hs'; unfold simpleS at hs'; rw [tyOf_get hil] at hs'; simp at hs'; simp [e, hs'.2.1]
      · rw [e, hi] at hs'; unfold simpleS at hs'; rw [tyOf_get hil] at hs'; simp at hs'; simp [e, hs'.2.1]
  · simp at hr
/-- What a bound says. -/
theorem bounds_law {p : Pr} {r : List Value} (h : r ∈ boundsOf p) : ∃ (x : Nat) (hx : x < p.types.length), isRef p.types[x] = true ∧ ((∃ k : Nat, k < (ptsOf p).length ∧ r = [.int .i64 x, .int .i64 k, .int .i64 (-1)]) ∨ (∃ y : Nat, y < p.types.length ∧ r = [.int .i64 x, .int .i64 (-1), .int .i64 y])) := by
  unfold boundsOf at h
  split at h
  · rename_i hv
    have hp : ptsOf p = pts p := by unfold ptsOf; rw [if_pos hv]
    obtain ⟨k, hr⟩ : ∃ k, r ∈ boundRow p.types (pts p) k := collR_mem (P := fun r => ∃ k, r ∈ boundRow p.types (pts p) k) (fun j r hr => ⟨j, hr⟩) _ r h
    rw [← hp] at hr
    rcases List.mem_append.1 hr with hr | hr
    · unfold bound1 at hr
      split at hr
      · rename_i ho
        simp at hr
        have hop : (ptAt (ptsOf p) k).op = 4 ∨ (ptAt (ptsOf p) k).op = 5 := by simpa [isLn] using ho
        have hk := ptAt_lt (M := ptsOf p) (k := k) (by omega)
        rw [ptAt_get hk] at hr hop
        have hs := pt_simple (p := p) rfl hk rfl
        generalize (ptsOf p)[k] = q at *
        have hs' : simpleS p.types q.op q.x q.y q.n = true := by rcases hs with hs | hs | hs | hs; omega; omega; omega; exact hs
        obtain ⟨i, j, hi, hj, hil, hjl⟩ := simple_xy hs' (by omega)
        refine ⟨i, hil, ?_, .inl ⟨k, hk, by rw [hr, hi]⟩⟩
        rcases hop with e | e
        · rw [e, hi] at hs'; unfold simpleS at hs'; rw [tyOf_get hil] at hs'; simp at hs'; simp [isRef, hs'.2.1]
        · rw [e, hi] at hs'; unfold simpleS at hs'; rw [tyOf_get hil] at hs'; simp at hs'; simp [isRef, hs'.2.1]
      · simp at hr
    · unfold bound2 at hr
      split at hr
      · rename_i ho
        simp at hr
        rw [Bool.and_eq_true] at ho
        obtain ⟨ho, href⟩ := ho
        have hop : (ptAt (ptsOf p) k).op = 4 ∨ (ptAt (ptsOf p) k).op = 5 ∨ (ptAt (ptsOf p) k).op = 3 := by simpa [isLn, or_assoc] using ho
        have hk := ptAt_lt (M := ptsOf p) (k := k) (by omega)
        rw [ptAt_get hk] at hr hop href
        have hs := pt_simple (p := p) rfl hk rfl
        generalize (ptsOf p)[k] = q at *
        have hs' : simpleS p.types q.op q.x q.y q.n = true := by rcases hs with hs | hs | hs | hs; omega; omega; omega; exact hs
        obtain ⟨i, j, hi, hj, hil, hjl⟩ := simple_xy hs' (by omega)
        refine ⟨i, hil, ?_, .inr ⟨j, hjl, by rw [hr, hi, hj]⟩⟩
        rw [hj, tyOf_get hjl] at href
        rcases hop with e | e | e
        · rw [e, hi] at hs'; unfold simpleS at hs'; rw [tyOf_get hil] at hs'; simp at hs'; simp [isRef, hs'.2.1]
        · rw [e, hi] at hs'; unfold simpleS at hs'; rw [tyOf_get hil] at hs'; simp at hs'; simp [isRef, hs'.2.1]
        · rw [e, hi, hj] at hs'; unfold simpleS at hs'; rw [tyOf_get hil, tyOf_get hjl] at hs'; simp at hs'; rw [hs'.2.1]; exact href
      · simp at hr
  · simp at h
def loanB : List Value → Bool
  | [_, .int _ k, _] => decide (0 ≤ k)
  | _ => false
def cntB (l : List (List Value)) : Nat := l.countP loanB
theorem cntB_app (l m : List (List Value)) : cntB (l ++ m) = cntB l + cntB m := by simp [cntB]
theorem boundRow_cnt (types : List Int) (L : List Pt) (k : Nat) : cntB (boundRow types L k) = (loanRow L k).length := by
  unfold boundRow
  rw [cntB_app]
  have h2 : cntB (bound2 types (ptAt L k)) = 0 := by unfold bound2; split <;> simp [cntB, loanB]
  have h1 : cntB (bound1 (ptAt L k) k) = (loanRow L k).length := by
    unfold bound1 loanRow isLn
    split <;> simp [cntB, loanB]
  omega
theorem collR_cnt (types : List Int) (L : List Pt) : ∀ n, cntB (collR (boundRow types L) n) = (collR (loanRow L) n).length
  | 0 => by simp [collR, cntB]
  | n + 1 => by
    simp only [collR, cntB_app, List.length_append]
    rw [collR_cnt types L n, boundRow_cnt]
/-- As many bounds with loans as there are loans. -/
theorem bounds_count (p : Pr) : cntB (boundsOf p) = (loansOf p).length := by
  unfold boundsOf loansOf ptsOf
  split
  · unfold bounds; exact collR_cnt _ _ _
  · simp [cntB, collR]
theorem cntB_take {l : List (List Value)} {j : Nat} (h : j < l.length) : cntB (l.take (j + 1)) = cntB (l.take j) + (if loanB l[j] = true then 1 else 0) := by
  rw [List.take_succ_eq_append_getElem h, cntB_app]
  simp [cntB, List.countP_cons]
theorem cntB_le (l : List (List Value)) : cntB l ≤ l.length := List.countP_le_length
end Go.Proofs.Ytpnaeijkllmihaa

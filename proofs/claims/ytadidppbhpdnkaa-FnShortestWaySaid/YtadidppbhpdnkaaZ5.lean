/- Plain laws: the choices of a way, and the run with them. -/
import Derived.Test.YtadidppbhpdnkaaZ3

import Derived.Test.YtadidppbhpdnkaaW3

namespace Go.Proofs.Ytadidppbhpdnkaa

open Go.RowKit

/-- The choice that leads from a point to t. -/
def chOf (L : List Pt) (k : Nat) (t : Int) : List Int := if (nextOf L k).length = 2 then [if ((nextOf L k).getD 0 0 : Int) = t then 0 else 1] else []
/-- The choices of the rest of a way, if it is one. -/
def wayC (L : List Pt) : Nat → List Int → Option (List Int)
  | _, [] => some []
  | k, t :: r => if t ∈ zs (nextOf L k) then (wayC L t.toNat r).map (chOf L k t ++ ·) else none
/-- What WayChoices hands back. -/
def wayOf (p : Pr) : List Int → List Int × Bool
  | [] => ([], false)
  | a :: r => if validP p = true ∧ a = 0 then (match wayC (ptsOf p) 0 r with | some cs => (cs, true) | none => ([], false)) else ([], false)
theorem wayC_cons (L : List Pt) (k : Nat) (t : Int) (r : List Int) : wayC L k (t :: r) = if t ∈ zs (nextOf L k) then (wayC L t.toNat r).map (chOf L k t ++ ·) else none := rfl
theorem wayOf_cons (p : Pr) (a : Int) (r : List Int) : wayOf p (a :: r) = if validP p = true ∧ a = 0 then (match wayC (ptsOf p) 0 r with | some cs => (cs, true) | none => ([], false)) else ([], false) := rfl
theorem chOf_len (L : List Pt) (k : Nat) (t : Int) : (chOf L k t).length ≤ 1 := by unfold chOf; split <;> simp
theorem wayC_len (L : List Pt) : ∀ (r : List Int) (k : Nat) (cs : List Int), wayC L k r = some cs → cs.length ≤ r.length
  | [], k, cs, h => by simp [wayC] at h; subst h; simp
  | t :: r, k, cs, h => by
    unfold wayC at h
    split at h
    · cases hw : wayC L t.toNat r with
      | none => rw [hw] at h; simp at h
      | some d =>
        rw [hw] at h
        simp at h
        subst h
        have := wayC_len L r _ _ hw
        have := chOf_len L k t
        simp; omega
    · simp at h
theorem wayOf_len (p : Pr) (l : List Int) : (wayOf p l).1.length ≤ l.length := by
  unfold wayOf
  split
  · simp
  · split
    · split
      · rename_i hw; have := wayC_len _ _ _ _ hw; simp; omega
      · simp
    · simp
theorem wayOf_nil (p : Pr) : wayOf p [] = ([], false) := rfl
theorem wayOf_out {p : Pr} {l : List Int} (h : validP p = false) : wayOf p l = ([], false) := by
  cases l with
  | nil => rfl
  | cons a r => simp [wayOf, h]
theorem wayOf_bad {p : Pr} {l : List Int} (hl : 0 < l.length) (h : l[0] ≠ 0) : wayOf p l = ([], false) := by
  cases l with
  | nil => rfl
  | cons a r => simp at h; simp [wayOf, h]
/-- The state of a walk along a way: at place i, the point k, the choices A so far; W is what WayChoices hands back. -/
def WayAt (L : List Pt) (W : List Int × Bool) (l : List Int) (i k : Nat) (A : List Int) : Prop :=
  k < L.length ∧ l[i]? = some (k : Int) ∧ A.length ≤ i ∧ W = (match wayC L k (l.drop (i + 1)) with | some cs => (A ++ cs, true) | none => ([], false))
theorem WayAt.start {p : Pr} {l : List Int} (hv : validP p = true) (hl : 0 < l.length) (h : l[0] = 0) : WayAt (ptsOf p) (wayOf p l) l 0 0 [] := by
  cases l with
  | nil => simp at hl
  | cons a r =>
    simp at h
    subst h
    refine ⟨pts_pos hv, rfl, Nat.le_refl _, ?_⟩
    simp [wayOf, hv]
theorem WayAt.last {L : List Pt} {W : List Int × Bool} {l : List Int} {i k : Nat} {A : List Int} (h : WayAt L W l i k A) (hi : i + 1 = l.length) : W = (A, true) := by
  obtain ⟨_, _, _, h⟩ := h
  rw [h, List.drop_of_length_le (by omega)]
  simp [wayC]
theorem WayAt.no {L : List Pt} {W : List Int × Bool} {l : List Int} {i k : Nat} {A : List Int} (h : WayAt L W l i k A) (hi : i + 1 < l.length) (hn : l[i + 1] ∉ zs (nextOf L k)) : W = ([], false) := by
  obtain ⟨_, _, _, h⟩ := h
  rw [h, List.drop_eq_getElem_cons hi]
  simp [wayC, hn]
theorem WayAt.step {L : List Pt} (hL : NextOk L) {W : List Int × Bool} {l : List Int} {i k : Nat} {A : List Int} (h : WayAt L W l i k A) (hi : i + 1 < l.length) (hn : l[i + 1] ∈ zs (nextOf L k)) : ∃ j : Nat, l[i + 1] = j ∧ WayAt L W l (i + 1) j (A ++ chOf L k l[i + 1]) := by
  obtain ⟨h1, h2, h3, h4⟩ := h
  obtain ⟨j, hj, e⟩ : ∃ j : Nat, j ∈ nextOf L k ∧ (j : Int) = l[i + 1] := by simpa [zs] using hn
  refine ⟨j, e.symm, (hL k h1).2 j hj, by rw [List.getElem?_eq_getElem hi, ← e], ?_, ?_⟩
  · have := chOf_len L k l[i + 1]; simp; omega
  · rw [h4, List.drop_eq_getElem_cons hi]
    rw [wayC_cons, if_pos hn]
    rw [show l[i + 1].toNat = j from by omega]
    cases wayC L j (List.drop (i + 1 + 1) l) <;> simp
/-- The choices of a run lead along it again. -/
theorem way_run {p : Pr} (hv : validP p = true) : ∀ (m k : Nat) (cs : List Int), k < (ptsOf p).length → (runF (ptsOf p) m k cs).1 ≠ [] →
    ∃ c, wayC (ptsOf p) k (zs (runF (ptsOf p) m k cs).1.tail) = some c ∧ (runF (ptsOf p) m k c).1.take (runF (ptsOf p) m k cs).1.length = (runF (ptsOf p) m k cs).1 ∧ ((runF (ptsOf p) m k cs).2 = true → runF (ptsOf p) m k c = runF (ptsOf p) m k cs)
  | 0, k, cs, hk, hne => by
    by_cases h : (ptAt (ptsOf p) k).op = 11
    · exact ⟨[], by rw [runF_end h]; simp [zs, wayC], by rw [runF_end h, runF_end h]; simp, fun _ => by rw [runF_end h, runF_end h]⟩
    · rw [runF_zero h] at hne; simp at hne
  | m + 1, k, cs, hk, hne => by
    by_cases h : (ptAt (ptsOf p) k).op = 11
    · exact ⟨[], by rw [runF_end h]; simp [zs, wayC], by rw [runF_end h, runF_end h]; simp, fun _ => by rw [runF_end h, runF_end h]⟩
    · have hk' := goOn_lt hv hk h cs
      have hform := ptAt_form hv hk
      have hnx : (ptAt (ptsOf p) k).next ≠ [] := by
        rcases hform with ⟨h1, _⟩ | ⟨_, _, h3⟩
        · exact absurd h1 h
        · exact h3.2.2.1
      have hmem := goOn_mem hnx cs
      rw [runF_on h]
      obtain ⟨g, hg⟩ : ∃ g, goOn (ptAt (ptsOf p) k) cs = g := ⟨_, rfl⟩
      rw [hg] at hk' hmem ⊢
      obtain ⟨k', cs'⟩ := g
      simp only at hk' hmem ⊢
      by_cases he : (runF (ptsOf p) m k' cs').1 = []
      · refine ⟨[], by simp [he, zs, wayC], ?_, ?_⟩
        · rw [runF_on h]; simp [he]
        · intro hb
          exfalso
          have := runF_last hv m k' cs' hk'
          obtain ⟨r, hr⟩ := this.1 hb
          rw [he] at hr
          simp at hr
      · obtain ⟨c, hc, h1, h2⟩ := way_run hv m k' cs' hk' he
        have hhd := runF_head (L := ptsOf p) m k' cs' (List.length_pos_iff.2 he)
        obtain ⟨R', hR'⟩ : ∃ R', (runF (ptsOf p) m k' cs').1 = R' := ⟨_, rfl⟩
        have hR : (runF (ptsOf p) m k' cs').1 = k' :: (runF (ptsOf p) m k' cs').1.tail := by
          conv => lhs; rw [← List.cons_head_tail he]
          congr 1
          rw [List.head_eq_getElem]
          exact hhd
        have hgo : ∃ c2, wayC (ptsOf p) k (zs (k' :: (runF (ptsOf p) m k' cs').1.tail)) = some c2 ∧ goOn (ptAt (ptsOf p) k) c2 = (k', c) := by
          have hin : (k' : Int) ∈ zs (nextOf (ptsOf p) k) := by rw [← ptAt_next]; unfold zs; exact List.mem_map.2 ⟨k', hmem, rfl⟩
          have hz : zs (k' :: (runF (ptsOf p) m k' cs').1.tail) = (k' : Int) :: zs (runF (ptsOf p) m k' cs').1.tail := rfl
          refine ⟨chOf (ptsOf p) k k' ++ c, ?_, ?_⟩
          · rw [hz]
            rw [wayC_cons, if_pos hin, Int.toNat_natCast, hc]
            rfl
          · unfold chOf
            rw [← ptAt_next]
            by_cases h2' : (ptAt (ptsOf p) k).next.length = 2
            · obtain ⟨a, b, hab⟩ := next_two h2'
              rw [if_pos h2', goOn_two hab]
              rw [hab] at hmem ⊢
              simp at hmem
              by_cases e : a = k'
              · simp [e]
              · have : (a : Int) ≠ k' := by omega
                simp [this]
                rcases hmem with rfl | rfl
                · exact absurd rfl e
                · rfl
            · rw [if_neg h2', List.nil_append]
              have hx : (ptAt (ptsOf p) k).next[0]? = some k' := by
                have hgg := hg
                have hlen := ((ptsOf_ok p) k hk).1
                rw [← ptAt_next] at hlen
                match hq : (ptAt (ptsOf p) k).next, h2', hlen, hnx with
                | [], _, _, h => exact absurd rfl h
                | [a], _, _, _ => rw [hq] at hmem; simp at hmem; simp [hmem]
                | _ :: _ :: _ :: _, _, hl, _ => simp at hl
              exact goOn_one h2' hx
        obtain ⟨c2, hw, hgo⟩ := hgo
        refine ⟨c2, by simp only [List.tail_cons]; rw [hR]; exact hw, ?_, ?_⟩
        · rw [runF_on h, hgo]; simp [h1]
        · intro hb
          rw [runF_on h, hgo]
          simp [h2 hb]
/-- What FnWayRun asks. -/
theorem wayRun_law {p : Pr} {cs : List Int} {most : Int} {R : List Nat} {B : Bool} (hR : (runOf p cs most).1 = R) (hB : (runOf p cs most).2 = B) (h : 0 < R.length) :
    (wayOf p (zs R)).2 = true ∧ (runOf p (wayOf p (zs R)).1 most).1.take R.length = R ∧ (B = true → runOf p (wayOf p (zs R)).1 most = (R, true)) := by
  subst hR hB
  obtain ⟨hv, m, rfl, hm, e⟩ := runOf_some (p := p) (cs := cs) (most := most) h
  have hp := pts_pos hv
  rw [e] at h ⊢
  have hne : (runF (ptsOf p) m 0 cs).1 ≠ [] := List.length_pos_iff.1 h
  obtain ⟨c, hc, h1, h2⟩ := way_run hv m 0 cs hp hne
  have hhd := runF_head (L := ptsOf p) m 0 cs h
  have hR : (runF (ptsOf p) m 0 cs).1 = 0 :: (runF (ptsOf p) m 0 cs).1.tail := by
    conv => lhs; rw [← List.cons_head_tail hne]
    congr 1
    rw [List.head_eq_getElem]
    exact hhd
  have hw : wayOf p (zs (runF (ptsOf p) m 0 cs).1) = (c, true) := by
    rw [hR]
    show wayOf p ((0 : Int) :: zs (runF (ptsOf p) m 0 cs).1.tail) = _
    rw [wayOf_cons, if_pos ⟨hv, rfl⟩, hc]
  rw [hw]
  refine ⟨rfl, ?_, fun hb => ?_⟩
  · rw [runOf_in hv hm]; exact h1
  · rw [runOf_in hv hm, h2 hb, ← hb]
end Go.Proofs.Ytadidppbhpdnkaa

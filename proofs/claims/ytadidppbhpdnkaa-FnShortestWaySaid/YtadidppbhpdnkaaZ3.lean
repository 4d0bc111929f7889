/- Plain laws: runs with choices. -/
/- Plain laws: what the laws say of runs. -/
import Derived.Test.YtadidppbhpdnkaaY4

namespace Go.Proofs.Ytadidppbhpdnkaa

open Go.RowKit

/-- Where a run goes from a point, and the choices that are left. -/
def goOn (q : Pt) (cs : List Int) : Nat × List Int :=
  match q.next with
  | [a, b] => match cs with
    | [] => (b, [])
    | c :: r => (if c % 2 = 0 then a else b, r)
  | n => (n.getD 0 0, cs)
/-- The points of a run from a point on, at most m of them, and whether the run ends. -/
def runF (L : List Pt) : Nat → Nat → List Int → List Nat × Bool
  | 0, k, _ => if (ptAt L k).op = 11 then ([k], true) else ([], false)
  | m + 1, k, cs => if (ptAt L k).op = 11 then ([k], true) else
      (k :: (runF L m (goOn (ptAt L k) cs).1 (goOn (ptAt L k) cs).2).1, (runF L m (goOn (ptAt L k) cs).1 (goOn (ptAt L k) cs).2).2)
theorem runF_end {L : List Pt} {k : Nat} (h : (ptAt L k).op = 11) (m : Nat) (cs : List Int) : runF L m k cs = ([k], true) := by
  cases m <;> simp [runF, h]
theorem runF_zero {L : List Pt} {k : Nat} (h : (ptAt L k).op ≠ 11) (cs : List Int) : runF L 0 k cs = ([], false) := by simp [runF, h]
theorem runF_on {L : List Pt} {k : Nat} (h : (ptAt L k).op ≠ 11) (m : Nat) (cs : List Int) : runF L (m + 1) k cs = (k :: (runF L m (goOn (ptAt L k) cs).1 (goOn (ptAt L k) cs).2).1, (runF L m (goOn (ptAt L k) cs).1 (goOn (ptAt L k) cs).2).2) := by
  simp [runF, h]
theorem runF_len (L : List Pt) : ∀ (m k : Nat) (cs : List Int), (runF L m k cs).1.length ≤ m + 1
  | 0, k, cs => by unfold runF; split <;> simp
  | m + 1, k, cs => by
    unfold runF
    split
    · simp
    · have := runF_len L m (goOn (ptAt L k) cs).1 (goOn (ptAt L k) cs).2
      simp; omega
/-- What RunPath hands back: the points, and whether the run ends. -/
def runOf (p : Pr) (cs : List Int) (most : Int) : List Nat × Bool :=
  if validP p = true ∧ 0 ≤ most ∧ most ≤ 1000 then runF (ptsOf p) most.toNat 0 cs else ([], false)
theorem runOf_in {p : Pr} {cs : List Int} {m : Nat} (hv : validP p = true) (hm : m ≤ 1000) : runOf p cs m = runF (ptsOf p) m 0 cs := by
  unfold runOf; rw [if_pos ⟨hv, by omega, by omega⟩]; simp
theorem runOf_out {p : Pr} {cs : List Int} {most : Int} (h : validP p = false ∨ most < 0 ∨ 1000 < most) : runOf p cs most = ([], false) := by
  unfold runOf; rw [if_neg]; rintro ⟨h1, h2, h3⟩; rcases h with h | h | h
  · rw [h] at h1; simp at h1
  · omega
  · omega
theorem runOf_len (p : Pr) (cs : List Int) (most : Int) : (runOf p cs most).1.length ≤ 1001 := by
  unfold runOf
  split
  · rename_i h
    have := runF_len (ptsOf p) most.toNat 0 cs
    omega
  · simp
theorem ptsOf_ok (p : Pr) : NextOk (ptsOf p) := by
  unfold ptsOf
  split
  · exact pts_next p
  · intro k hk; exact absurd hk (by simp)
theorem pts_pos {p : Pr} (hv : validP p = true) : 0 < (ptsOf p).length := by
  unfold ptsOf; rw [if_pos hv, pts_length]; omega
theorem ptsOf_pts {p : Pr} (hv : validP p = true) : ptsOf p = pts p := by unfold ptsOf; rw [if_pos hv]

mutual
theorem ptsS_not11 (types : List Int) : ∀ (s : St) (d : Int) (a : Nat), stS types s d = true → ∀ q ∈ ptsS s a, q.op ≠ 11
  | .mk op x y n t e, d, a, h => by
    simp only [stS] at h
    have h1 := ptsL_not11 types t (d - 1)
    have h2 := ptsL_not11 types e (d - 1)
    simp only [ptsS]
    split at h
    · rename_i hop
      have h9 : ¬ (op == 9) = true := by simp at hop ⊢; exact hop.1
      have h10 : ¬ (op == 10) = true := by simp at hop ⊢; exact hop.2
      rw [if_neg h9, if_neg h10]
      simp only [Bool.and_eq_true] at h
      intro q hq
      simp at hq
      subst hq
      rintro (h11 : op = 11)
      subst h11
      have := h.2.2
      unfold simpleS at this
      simp at this
    · split at h
      · simp at h
      · simp only [Bool.and_eq_true] at h
        intro q hq
        split at hq
        · simp only [List.mem_append, List.mem_singleton] at hq
          rcases hq with ((hq | hq) | hq) | hq
          · subst hq; simp
          · exact h1 _ h.1 q hq
          · subst hq; simp
          · exact h2 _ h.2 q hq
        · split at hq
          · simp only [List.mem_append, List.mem_singleton] at hq
            rcases hq with (hq | hq) | hq
            · subst hq; simp
            · exact h1 _ h.1 q hq
            · subst hq; simp
          · rename_i h3 h4 h5 h6
            exfalso
            simp at h3 h5 h6
            exact h6 (h3 h5)
theorem ptsL_not11 (types : List Int) : ∀ (l : List St) (d : Int) (a : Nat), bodyS types l d = true → ∀ q ∈ ptsL l a, q.op ≠ 11
  | [], d, a, h => by intro q hq; simp [ptsL] at hq
  | s :: r, d, a, h => by
    simp only [bodyS, Bool.and_eq_true] at h
    simp only [ptsL]
    intro q hq
    rcases List.mem_append.1 hq with hq | hq
    · exact ptsS_not11 types s d a h.1 q hq
    · exact ptsL_not11 types r d _ h.2 q hq
end
/-- By its form, a point of a valid program. -/
theorem ptAt_form {p : Pr} {k : Nat} (hv : validP p = true) (hk : k < (ptsOf p).length) : ((ptAt (ptsOf p) k).op = 11 ∧ k + 1 = (ptsOf p).length) ∨ ((ptAt (ptsOf p) k).op ≠ 11 ∧ k + 1 < (ptsOf p).length ∧ Form k (ptAt (ptsOf p) k)) := by
  have hp := ptsOf_pts hv
  rw [ptAt_get hk]
  have hq : (pts p)[k]? = some (ptsOf p)[k] := by rw [← hp, List.getElem?_eq_getElem hk]
  rcases pts_form p hq with ⟨h1, h2⟩ | ⟨h1, h2⟩
  · refine .inr ⟨fun h11 => ?_, by rw [hp]; exact h1, h2⟩
    rcases pts_split p hq with ⟨h3, h4⟩ | ⟨h3, _⟩
    · have hv' := hv
      rw [← valid_same] at hv'
      unfold validS at hv'
      simp only [Bool.and_eq_true] at hv'
      exact ptsL_not11 p.types p.body 4 0 hv'.2.1 _ (List.mem_of_getElem? h4) h11
    · have := pts_length p; omega
  · exact .inl ⟨by rw [h2], by rw [hp]; exact h1⟩
theorem ptAt_next (L : List Pt) (k : Nat) : (ptAt L k).next = nextOf L k := rfl
theorem goOn_mem {q : Pt} (h : q.next ≠ []) (cs : List Int) : (goOn q cs).1 ∈ q.next := by
  unfold goOn
  match hq : q.next, h with
  | [a], _ => simp
  | [a, b], _ =>
    cases cs with
    | nil => simp
    | cons c r => simp only; split <;> simp
  | a :: b :: c :: r, _ => simp
theorem goOn_lt {p : Pr} (hv : validP p = true) {k : Nat} (hk : k < (ptsOf p).length) (h : (ptAt (ptsOf p) k).op ≠ 11) (cs : List Int) : (goOn (ptAt (ptsOf p) k) cs).1 < (ptsOf p).length := by
  rcases ptAt_form hv hk with ⟨h1, _⟩ | ⟨_, _, h2⟩
  · exact absurd h1 h
  · exact (ptsOf_ok p k hk).2 _ (by rw [← ptAt_next]; exact goOn_mem h2.2.2.1 cs)
theorem runF_head {L : List Pt} : ∀ (m k : Nat) (cs : List Int) (h : 0 < (runF L m k cs).1.length), (runF L m k cs).1[0] = k := by
  intro m k cs h
  by_cases h11 : (ptAt L k).op = 11
  · simp [runF_end h11]
  · cases m with
    | zero => simp [runF_zero h11] at h
    | succ m => simp [runF_on h11]
/-- The points of a run are points, each leads to the one behind it. -/
theorem runF_at {p : Pr} (hv : validP p = true) : ∀ (m k : Nat) (cs : List Int), k < (ptsOf p).length → ∀ i (h : i < (runF (ptsOf p) m k cs).1.length),
    (runF (ptsOf p) m k cs).1[i] < (ptsOf p).length ∧ ∀ (h' : i + 1 < (runF (ptsOf p) m k cs).1.length), (runF (ptsOf p) m k cs).1[i + 1] ∈ (ptAt (ptsOf p) ((runF (ptsOf p) m k cs).1[i])).next := by
  intro m
  induction m with
  | zero =>
    intro k cs hk i h
    by_cases h11 : (ptAt (ptsOf p) k).op = 11
    · simp only [runF_end h11, List.length_cons, List.length_nil] at h ⊢
      obtain rfl : i = 0 := by omega
      exact ⟨hk, fun h' => by omega⟩
    · simp [runF_zero h11] at h
  | succ m ih =>
    intro k cs hk i h
    by_cases h11 : (ptAt (ptsOf p) k).op = 11
    · simp only [runF_end h11, List.length_cons, List.length_nil] at h ⊢
      obtain rfl : i = 0 := by omega
      exact ⟨hk, fun h' => by omega⟩
    · simp only [runF_on h11, List.length_cons] at h ⊢
      have hgo := goOn_lt hv hk h11 cs
      cases i with
      | zero =>
        refine ⟨hk, fun h' => ?_⟩
        simp only [List.getElem_cons_succ, List.getElem_cons_zero]
        rw [runF_head]
        rcases ptAt_form hv hk with ⟨h1, _⟩ | ⟨_, _, h2⟩
        · exact absurd h1 h11
        · exact goOn_mem h2.2.2.1 cs
      | succ i =>
        have h2 := ih _ (goOn (ptAt (ptsOf p) k) cs).2 hgo i (by omega)
        exact ⟨by simpa using h2.1, fun h' => by simpa using h2.2 (by omega)⟩
/-- How a run ends. -/
theorem runF_last {p : Pr} (hv : validP p = true) : ∀ (m k : Nat) (cs : List Int), k < (ptsOf p).length →
    ((runF (ptsOf p) m k cs).2 = true → ∃ r, (runF (ptsOf p) m k cs).1 = r ++ [(ptsOf p).length - 1]) ∧
    ((runF (ptsOf p) m k cs).2 = false → (runF (ptsOf p) m k cs).1.length = m ∧ ∀ j ∈ (runF (ptsOf p) m k cs).1, j + 1 < (ptsOf p).length) := by
  intro m
  induction m with
  | zero =>
    intro k cs hk
    rcases ptAt_form hv hk with ⟨h1, h2⟩ | ⟨h11, _, _⟩
    · rw [runF_end h1]
      exact ⟨fun _ => ⟨[], by simp; omega⟩, by simp⟩
    · rw [runF_zero h11]
      simp
  | succ m ih =>
    intro k cs hk
    rcases ptAt_form hv hk with ⟨h1, h2⟩ | ⟨h11, hk2, _⟩
    · rw [runF_end h1]
      exact ⟨fun _ => ⟨[], by simp; omega⟩, by simp⟩
    · rw [runF_on h11]
      obtain ⟨h3, h4⟩ := ih _ (goOn (ptAt (ptsOf p) k) cs).2 (goOn_lt hv hk h11 cs)
      refine ⟨fun h => ?_, fun h => ?_⟩
      · obtain ⟨r, hr⟩ := h3 h
        exact ⟨k :: r, by simp [hr]⟩
      · obtain ⟨h5, h6⟩ := h4 h
        refine ⟨by simp [h5], fun j hj => ?_⟩
        rcases List.mem_cons.1 hj with rfl | hj
        · exact hk2
        · exact h6 j hj
/-- A longer run goes on. -/
theorem runF_more (L : List Pt) (n : Nat) : ∀ (m k : Nat) (cs : List Int), (runF L (m + n) k cs).1.take (runF L m k cs).1.length = (runF L m k cs).1 ∧ ((runF L m k cs).2 = true → runF L (m + n) k cs = runF L m k cs) := by
  intro m
  induction m with
  | zero =>
    intro k cs
    by_cases h11 : (ptAt L k).op = 11
    · rw [runF_end h11, runF_end h11]; simp
    · rw [runF_zero h11]; simp
  | succ m ih =>
    intro k cs
    by_cases h11 : (ptAt L k).op = 11
    · rw [runF_end h11, runF_end h11]; simp
    · rw [show m + 1 + n = (m + n) + 1 from by omega, runF_on h11, runF_on h11]
      obtain ⟨h1, h2⟩ := ih (goOn (ptAt L k) cs).1 (goOn (ptAt L k) cs).2
      refine ⟨by simp [h1], fun h => ?_⟩
      simp only at h
      rw [h2 h]
/-- Choices are even or odd; without one a run goes as at an odd one. -/
def Evens (cs ds : List Int) : Prop := (ds = cs.map (fun c => c.tmod 2) ++ [1]) ∨ (cs = [] ∧ ds = [])
theorem tmod_even (c : Int) : (c.tmod 2 % 2 = 0) ↔ (c % 2 = 0) := by
  constructor <;> intro h
  · have := Int.tmod_add_mul_tdiv c 2; omega
  · have := Int.tmod_add_mul_tdiv c 2; omega
theorem goOn_evens {cs ds : List Int} (q : Pt) (h : Evens cs ds) : (goOn q ds).1 = (goOn q cs).1 ∧ Evens (goOn q cs).2 (goOn q ds).2 := by
  unfold goOn
  match q.next with
  | [] => exact ⟨rfl, h⟩
  | [a] => exact ⟨rfl, h⟩
  | [a, b] =>
    rcases h with h | ⟨rfl, rfl⟩
    · cases cs with
      | nil =>
        simp at h; subst h
        exact ⟨by simp, .inr ⟨rfl, rfl⟩⟩
      | cons c r =>
        simp at h; subst h
        refine ⟨?_, .inl rfl⟩
        simp only
        by_cases hc : c % 2 = 0
        · rw [if_pos hc, if_pos ((tmod_even c).2 hc)]
        · rw [if_neg hc, if_neg (fun h => hc ((tmod_even c).1 h))]
    · exact ⟨rfl, .inr ⟨rfl, rfl⟩⟩
  | a :: b :: c :: r => exact ⟨rfl, h⟩
theorem runF_evens (L : List Pt) : ∀ (m k : Nat) (cs ds : List Int), Evens cs ds → runF L m k ds = runF L m k cs := by
  intro m
  induction m with
  | zero => intro k cs ds _; by_cases h11 : (ptAt L k).op = 11 <;> simp [runF, h11]
  | succ m ih =>
    intro k cs ds h
    by_cases h11 : (ptAt L k).op = 11
    · rw [runF_end h11, runF_end h11]
    · obtain ⟨h1, h2⟩ := goOn_evens (ptAt L k) h
      rw [runF_on h11, runF_on h11, h1, ih _ _ _ h2]
theorem runOf_evens (p : Pr) (cs : List Int) (most : Int) : runOf p (cs.map (fun c => c.tmod 2) ++ [1]) most = runOf p cs most := by
  unfold runOf
  split
  · exact runF_evens _ _ _ _ _ (.inl rfl)
  · rfl
end Go.Proofs.Ytadidppbhpdnkaa

namespace Go.Proofs.Ytadidppbhpdnkaa

open Go.RowKit

theorem runOf_some {p : Pr} {cs : List Int} {most : Int} (h : 0 < (runOf p cs most).1.length) : validP p = true ∧ ∃ m : Nat, most = m ∧ m ≤ 1000 ∧ runOf p cs most = runF (ptsOf p) m 0 cs := by
  unfold runOf at h ⊢
  split at h
  · rename_i hc
    refine ⟨hc.1, most.toNat, by omega, by omega, ?_⟩
    rw [if_pos hc]
  · simp at h
/-- The points of a run. -/
theorem runOf_at {p : Pr} {cs : List Int} {most : Int} {R : List Nat} (hR : (runOf p cs most).1 = R) {i : Nat} (h : i < R.length) : R[i] < (ptsOf p).length ∧ ∀ (h' : i + 1 < R.length), R[i + 1] ∈ (ptAt (ptsOf p) R[i]).next := by
  subst hR
  obtain ⟨hv, m, rfl, _, e⟩ := runOf_some (p := p) (cs := cs) (most := most) (by omega)
  have hp := pts_pos hv
  have := runF_at hv m 0 cs hp i (by rw [← e]; exact h)
  simp only [← e] at this
  exact this
theorem runOf_first {p : Pr} {cs : List Int} {most : Int} {R : List Nat} (hR : (runOf p cs most).1 = R) (h : 0 < R.length) : R[0] = 0 := by
  subst hR
  obtain ⟨hv, m, rfl, _, e⟩ := runOf_some (p := p) (cs := cs) (most := most) h
  have := runF_head (L := ptsOf p) m 0 cs (by rw [← e]; exact h)
  simp only [← e] at this
  exact this
theorem runOf_end {p : Pr} {cs : List Int} {most : Int} {R : List Nat} {B : Bool} (hR : (runOf p cs most).1 = R) (hB : (runOf p cs most).2 = B) (h : 0 < R.length) : (R[R.length - 1]'(by omega) + 1 = (ptsOf p).length ↔ B = true) ∧ (B = false → (R.length : Int) = most) := by
  subst hR hB
  obtain ⟨hv, m, rfl, _, e⟩ := runOf_some (p := p) (cs := cs) (most := most) h
  have hp := pts_pos hv
  obtain ⟨h1, h2⟩ := runF_last hv m 0 cs hp
  rw [← e] at h1 h2
  generalize runOf p cs m = T at *
  obtain ⟨R, B⟩ := T
  simp only at *
  refine ⟨⟨fun hl => ?_, fun hB => ?_⟩, fun hB => ?_⟩
  · cases B with
    | true => rfl
    | false =>
      change 0 < R.length at h
      have := (h2 rfl).2 _ (List.getElem_mem (show R.length - 1 < R.length by omega))
      omega
  · obtain ⟨r, rfl⟩ := h1 hB
    simp only [List.length_append, List.length_cons, List.length_nil]
    rw [List.getElem_append_right (by omega)]
    simp
    omega
  · have := (h2 hB).1; omega
/-- A run of a hundred points more. -/
theorem runOf_longer {p : Pr} {cs : List Int} {m : Nat} (hm : m ≤ 900) : (runOf p cs ((m + 100 : Nat) : Int)).1.take (runOf p cs m).1.length = (runOf p cs m).1 ∧ ((runOf p cs m).2 = true → runOf p cs ((m + 100 : Nat) : Int) = runOf p cs m) := by
  cases hv : validP p with
  | false => rw [runOf_out (.inl hv), runOf_out (.inl hv)]; simp
  | true =>
    rw [runOf_in hv (by omega), runOf_in hv (by omega)]
    exact runF_more (ptsOf p) 100 m 0 cs

/-! ### Without choices -/

theorem chs_zero {q : Pt} {r : List Pt} (h : chs (q :: r) = 0) : q.next.length ≠ 2 ∧ chs r = 0 := by
  have h1 := chs_app [q] r
  rw [List.singleton_append, h] at h1
  refine ⟨fun h2 => ?_, by omega⟩
  have : chs [q] = 1 := by simp [chs, h2]
  omega
theorem ptsS_straight : ∀ (s : St) (a : Nat), chs (ptsS s a) = 0 → ∀ k q, (ptsS s a)[k]? = some q → q.next = [a + k + 1]
  | .mk op x y n t e, a, h => by
    simp only [ptsS] at h ⊢
    split at h
    · rw [chs_app, chs_app, chs_app] at h
      have : chs [(⟨9, 0, 0, 0, [a + 1, a + 1 + (ptsL t (a + 1)).length + 1]⟩ : Pt)] = 1 := rfl
      omega
    · split at h
      · rw [chs_app, chs_app] at h
        have : chs [(⟨10, 0, 0, 0, [a + 1, a + 1 + (ptsL t (a + 1)).length + 1]⟩ : Pt)] = 1 := rfl
        omega
      · rename_i h9 h10
        rw [if_neg h9, if_neg h10]
        intro k q hk
        cases k with
        | zero => simp at hk; subst hk; rfl
        | succ k => simp at hk
theorem ptsL_straight : ∀ (l : List St) (a : Nat), chs (ptsL l a) = 0 → ∀ k q, (ptsL l a)[k]? = some q → q.next = [a + k + 1]
  | [], a, _ => by intro k q hk; simp [ptsL] at hk
  | s :: r, a, h => by
    simp only [ptsL, chs_app] at h ⊢
    intro k q hk
    by_cases hlt : k < (ptsS s a).length
    · rw [List.getElem?_append_left hlt] at hk
      exact ptsS_straight s a (by omega) k q hk
    · rw [List.getElem?_append_right (by omega)] at hk
      have := ptsL_straight r _ (by omega) _ q hk
      rw [this]
      congr 1
      omega
theorem straight {p : Pr} (hv : validP p = true) (h : chs (ptsOf p) = 0) : ∀ m k cs, k < (ptsOf p).length → (ptsOf p).length ≤ k + 1 + m → (runF (ptsOf p) m k cs).2 = true ∧ (runF (ptsOf p) m k cs).1.length = (ptsOf p).length - k := by
  have hp := ptsOf_pts hv
  have hlen := pts_length p
  have hz : chs (ptsL p.body 0) = 0 := by rw [hp] at h; unfold pts at h; rw [chs_app] at h; omega
  intro m
  induction m with
  | zero =>
    intro k cs hk hm
    rcases ptAt_form hv hk with ⟨h1, _⟩ | ⟨_, h1, _⟩
    · rw [runF_end h1]; simp; omega
    · omega
  | succ m ih =>
    intro k cs hk hm
    rcases ptAt_form hv hk with ⟨h1, h2⟩ | ⟨h1, h2, _⟩
    · rw [runF_end h1]; simp; omega
    · have hnx : (ptAt (ptsOf p) k).next = [k + 1] := by
        have hkl : k < (ptsL p.body 0).length := by rw [hp] at h2; omega
        have e : (ptsL p.body 0)[k]? = some (ptAt (ptsOf p) k) := by
          rw [ptAt_get hk]
          have : (pts p)[k]? = some (ptsOf p)[k] := by rw [← hp, List.getElem?_eq_getElem hk]
          have h3 : (ptsL p.body 0 ++ [⟨11, 0, 0, 0, []⟩])[k]? = some (ptsOf p)[k] := this
          rw [List.getElem?_append_left hkl] at h3
          exact h3
        have := ptsL_straight p.body 0 hz k _ e
        simpa using this
      have hgo : goOn (ptAt (ptsOf p) k) cs = (k + 1, cs) := by unfold goOn; rw [hnx]; rfl
      rw [runF_on h1, hgo]
      obtain ⟨h5, h6⟩ := ih (k + 1) cs h2 (by omega)
      exact ⟨h5, by simp [h6]; omega⟩
theorem runOf_straight {p : Pr} (hv : validP p = true) (h : chs (ptsOf p) = 0) : (runOf p [] 100).2 = true ∧ (runOf p [] 100).1.length = (ptsOf p).length := by
  have := straight hv h 100 0 [] (pts_pos hv) (by have := ptsOf_le p; omega)
  have e : runOf p [] (100 : Int) = runF (ptsOf p) 100 0 [] := runOf_in (m := 100) hv (by omega)
  rw [e]
  exact ⟨this.1, by omega⟩
end Go.Proofs.Ytadidppbhpdnkaa

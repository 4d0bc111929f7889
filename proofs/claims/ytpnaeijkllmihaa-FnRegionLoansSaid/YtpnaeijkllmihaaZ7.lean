/- Plain laws: regions as words, made by rounds that say whether they have changed something. -/
import Derived.Test.YtpnaeijkllmihaaZ6

import Derived.Test.YtpnaeijkllmihaaBW

namespace Go.Proofs.Ytpnaeijkllmihaa

open Go.RowKit

/-- The word that a bound makes of its variable's word. -/
def wset (O : Nat → Nat) : Bd → Nat
  | .loan v k => O v ||| 2 ^ k
  | .frm v u => O v ||| O u
def updW (O : Nat → Nat) (v x : Nat) : Nat → Nat := fun i => if i = v then x else O i
def WSound (B : List Bd) (O : Nat → Nat) : Prop := ∀ v k, (O v).testBit k = true → Rg B k v
def WHolds (O : Nat → Nat) (b : Bd) : Prop := wset O b = O b.var
def sumW (O : Nat → Nat) : Nat := O 0 + O 1 + O 2 + O 3 + O 4 + O 5
theorem wset_ge (O : Nat → Nat) (b : Bd) : O b.var ≤ wset O b := by cases b <;> exact Nat.left_le_or
theorem WSound.upd {B : List Bd} {O : Nat → Nat} (h : WSound B O) {b : Bd} (hb : b ∈ B) : WSound B (updW O b.var (wset O b)) := by
  intro v k hk
  unfold updW at hk
  split at hk
  · rename_i e
    subst e
    cases b with
    | loan v k' =>
      simp only [wset, Nat.testBit_or, Bool.or_eq_true, Nat.testBit_two_pow, decide_eq_true_eq] at hk
      rcases hk with hk | rfl
      · exact h _ _ hk
      · exact .loan hb
    | frm v u =>
      simp only [wset, Nat.testBit_or, Bool.or_eq_true] at hk
      rcases hk with hk | hk
      · exact h _ _ hk
      · exact .frm hb (h _ _ hk)
  · exact h _ _ hk
theorem WSound.nil (B : List Bd) : WSound B (fun _ => 0) := fun v k h => by simp at h
/-- A closed sound table is the regions. -/
theorem WSound.done {p : Pr} {O : Nat → Nat} (h : WSound (bds p) O) (hc : ∀ b ∈ bds p, WHolds O b) (v k : Nat) : (O v).testBit k = regB p v k := by
  have hr : Rg (bds p) k v → (O v).testBit k = true := fun hr => by
    induction hr with
    | loan hb =>
      rename_i v
      have := hc _ hb
      simp only [WHolds, wset, Bd.var] at this
      rw [← this, Nat.testBit_or, Nat.testBit_two_pow_self, Bool.or_true]
    | frm hb _ ih =>
      have := hc _ hb
      simp only [WHolds, wset, Bd.var] at this
      rw [← this, Nat.testBit_or, ih, Bool.or_true]
  cases hb : (O v).testBit k with
  | true => exact (regB_iff.2 (h _ _ hb)).symm
  | false =>
    cases h2 : regB p v k with
    | false => rfl
    | true => rw [hr (regB_iff.1 h2)] at hb; simp at hb
theorem wset_lt {O : Nat → Nat} {b : Bd} {n m N : Nat} (hO : ∀ i, O i < 2 ^ N) (hb : b.ok n m) (hm : m ≤ N) : wset O b < 2 ^ N := by
  cases b with
  | loan v k => exact Nat.or_lt_two_pow (hO _) (Nat.pow_lt_pow_right (by omega) (by have := hb.2; omega))
  | frm v u => exact Nat.or_lt_two_pow (hO _) (hO _)
theorem updW_lt {O : Nat → Nat} {v x N : Nat} (hO : ∀ i, O i < 2 ^ N) (hx : x < 2 ^ N) : ∀ i, updW O v x i < 2 ^ N := by
  intro i; unfold updW; split
  · exact hx
  · exact hO i
theorem sumW_upd {O : Nat → Nat} {v x : Nat} (hv : v < 6) (h : O v < x) : sumW O < sumW (updW O v x) := by
  obtain rfl | rfl | rfl | rfl | rfl | rfl : v = 0 ∨ v = 1 ∨ v = 2 ∨ v = 3 ∨ v = 4 ∨ v = 5 := by omega
  all_goals simp [sumW, updW]; omega
theorem sumW_le {O : Nat → Nat} (hO : ∀ i, O i < 2 ^ 64) : sumW O ≤ 6 * 2 ^ 64 := by
  have h0 := hO 0; have h1 := hO 1; have h2 := hO 2; have h3 := hO 3; have h4 := hO 4; have h5 := hO 5
  unfold sumW; omega
/-- A round under way: from O0 on, i bounds have been met; c says whether something has changed. -/
def WRound (B : List Bd) (O0 O : Nat → Nat) (c : Bool) (i : Nat) : Prop :=
  WSound B O ∧ (∀ v, O v < 2 ^ 64) ∧ (c = true → sumW O0 < sumW O) ∧ (c = false → O = O0 ∧ ∀ j (h : j < B.length), j < i → WHolds O0 B[j])
theorem WRound.start {B : List Bd} {O : Nat → Nat} (h : WSound B O) (hl : ∀ v, O v < 2 ^ 64) : WRound B O O false 0 := ⟨h, hl, (fun h => by cases h), fun _ => ⟨rfl, fun j _ h => absurd h (by omega)⟩⟩
theorem WRound.change {B : List Bd} {O0 O : Nat → Nat} {c : Bool} {i : Nat} (h : WRound B O0 O c i) (hi : i < B.length) {n m : Nat} (hok : B[i].ok n m) (hn : n ≤ 6) (hm : m ≤ 64) (hne : wset O B[i] ≠ O B[i].var) : WRound B O0 (updW O B[i].var (wset O B[i])) true (i + 1) := by
  obtain ⟨h1, h2, h3, h4⟩ := h
  refine ⟨h1.upd (List.getElem_mem _), updW_lt h2 (wset_lt h2 hok hm), fun _ => ?_, fun h => by cases h⟩
  have hv : B[i].var < 6 := by
    generalize B[i] = b at hok ⊢
    cases b <;> exact Nat.lt_of_lt_of_le hok.1 hn
  have hlt := sumW_upd hv (Nat.lt_of_le_of_ne (wset_ge O B[i]) (Ne.symm hne))
  cases c with
  | true => exact Nat.lt_trans (h3 rfl) hlt
  | false => rw [(h4 rfl).1] at hlt ⊢; exact hlt
theorem WRound.same {B : List Bd} {O0 O : Nat → Nat} {c : Bool} {i : Nat} (h : WRound B O0 O c i) (hi : i < B.length) (he : wset O B[i] = O B[i].var) : WRound B O0 O c (i + 1) := by
  obtain ⟨h1, h2, h3, h4⟩ := h
  refine ⟨h1, h2, h3, fun hc => ⟨(h4 hc).1, fun j hj hji => ?_⟩⟩
  by_cases e : j = i
  · subst e; rw [← (h4 hc).1]; exact he
  · exact (h4 hc).2 j hj (by omega)
/-- Behind a round. -/
def WAfter (p : Pr) (O : Nat → Nat) (c : Bool) : Prop := WSound (bds p) O ∧ (∀ v, O v < 2 ^ 64) ∧ (c = false → ∀ v k, (O v).testBit k = regB p v k)
theorem WRound.done {p : Pr} {O0 O : Nat → Nat} {c : Bool} {i : Nat} (h : WRound (bds p) O0 O c i) (hi : (bds p).length ≤ i) : WAfter p O c := by
  obtain ⟨h1, h2, h3, h4⟩ := h
  refine ⟨h1, h2, fun hc => ?_⟩
  obtain ⟨e, h5⟩ := h4 hc
  subst e
  refine h1.done fun b hb => ?_
  obtain ⟨j, hj, rfl⟩ := List.getElem_of_mem hb
  exact h5 j hj (by omega)
theorem WAfter.start (p : Pr) : WAfter p (fun _ => 0) true := ⟨WSound.nil _, (fun v => by simp), (fun h => by cases h)⟩
/-- How much can still change. -/
def wLeft (O : Nat → Nat) (c : Bool) : Nat := 2 * (6 * 2 ^ 64 - sumW O) + (if c = true then 1 else 0)
theorem WRound.left {B : List Bd} {O0 O : Nat → Nat} {c : Bool} {i : Nat} (h : WRound B O0 O c i) : wLeft O c < wLeft O0 true := by
  obtain ⟨h1, h2, h3, h4⟩ := h
  have := sumW_le h2
  unfold wLeft
  cases c with
  | true => have := h3 rfl; simp; omega
  | false => rw [(h4 rfl).1]; simp
/-- Words with the bits of F, compared. -/
theorem word_sub {a b : Nat} {F G : Nat → Bool} (ha : ∀ k, a.testBit k = F k) (hb : ∀ k, b.testBit k = G k) : ndiff a b = 0 ↔ ∀ k, F k = true → G k = true := by
  constructor
  · intro h k hk
    have h1 := ndiff_bit a b k
    rw [h, ha, hb, hk] at h1
    cases hg : G k with
    | true => rfl
    | false => rw [hg] at h1; simp at h1
  · intro h
    refine Nat.eq_of_testBit_eq fun k => ?_
    rw [ndiff_bit, ha, hb, Nat.zero_testBit]
    cases hf : F k with
    | false => rfl
    | true => rw [h k hf]; rfl
theorem coll_congr {F G : Nat → Bool} : ∀ {n}, (∀ k, k < n → F k = G k) → coll F n = coll G n
  | 0, _ => rfl
  | n + 1, h => by
    have ih := coll_congr (n := n) fun k hk => h k (by omega)
    unfold coll
    rw [ih, h n (by omega)]
theorem coll_up {F : Nat → Bool} {n : Nat} (h : ∀ k, n ≤ k → F k = false) : ∀ m, n ≤ m → coll F m = coll F n
  | 0, hm => by
    obtain rfl : n = 0 := by omega
    rfl
  | m + 1, hm => by
    by_cases e : n = m + 1
    · subst e; rfl
    · rw [coll_no (h m (by omega)), coll_up h m (by omega)]
end Go.Proofs.Ytpnaeijkllmihaa

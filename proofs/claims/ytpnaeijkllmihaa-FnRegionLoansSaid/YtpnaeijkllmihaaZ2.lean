/- Plain laws: the least regions of bounds, by any rounds that add what is missing. -/
import Derived.Test.YtpnaeijkllmihaaN7

namespace Go.Proofs.Ytpnaeijkllmihaa

open Go.RowKit

/-- A bound: the region of v has the loan k; or all of the region of u. -/
inductive Bd where
  | loan (v k : Nat)
  | frm (v u : Nat)
def Bd.row : Bd → List Value
  | .loan v k => [.int .i64 (v : Int), .int .i64 (k : Int), .int .i64 (-1)]
  | .frm v u => [.int .i64 (v : Int), .int .i64 (-1), .int .i64 (u : Int)]
def Bd.ok (n m : Nat) : Bd → Prop
  | .loan v k => v < n ∧ k < m
  | .frm v u => v < n ∧ u < n
/-- The loan k is in the region of a variable. -/
inductive Rg (B : List Bd) (k : Nat) : Nat → Prop
  | loan {v : Nat} : Bd.loan v k ∈ B → Rg B k v
  | frm {v u : Nat} : Bd.frm v u ∈ B → Rg B k u → Rg B k v
def Cl (k : Nat) (S : Nat → Bool) : Bd → Prop
  | .loan v k' => k' = k → S v = true
  | .frm v u => S u = true → S v = true
theorem rg_of_closed {B : List Bd} {k : Nat} {S : Nat → Bool} (h : ∀ b ∈ B, Cl k S b) {v : Nat} (hr : Rg B k v) : S v = true := by
  induction hr with
  | loan hb => exact h _ hb rfl
  | frm hb _ ih => exact h _ hb ih
def updS (k : Nat) (S : Nat → Bool) : Bd → Nat → Bool
  | .loan v k' => fun w => S w || (decide (w = v) && decide (k' = k))
  | .frm v u => fun w => S w || (decide (w = v) && S u)
theorem updS_mono {k : Nat} {S : Nat → Bool} (b : Bd) {w : Nat} (h : S w = true) : updS k S b w = true := by
  cases b <;> simp [updS, h]
theorem updS_sound {B : List Bd} {k : Nat} {S : Nat → Bool} (hS : ∀ w, S w = true → Rg B k w) {b : Bd} (hb : b ∈ B) : ∀ w, updS k S b w = true → Rg B k w := by
  intro w hw
  cases b with
  | loan v k' =>
    simp [updS] at hw
    rcases hw with hw | ⟨rfl, rfl⟩
    · exact hS w hw
    · exact .loan hb
  | frm v u =>
    simp [updS] at hw
    rcases hw with hw | ⟨rfl, hu⟩
    · exact hS w hw
    · exact .frm hb (hS u hu)
theorem updS_closed {k : Nat} {S : Nat → Bool} {b : Bd} (h : Cl k S b) : updS k S b = S := by
  funext w
  cases b with
  | loan v k' =>
    simp only [updS]
    by_cases h1 : w = v ∧ k' = k
    · obtain ⟨rfl, rfl⟩ := h1; simp [h rfl]
    · have : (decide (w = v) && decide (k' = k)) = false := by simpa using h1
      rw [this, Bool.or_false]
  | frm v u =>
    simp only [updS]
    by_cases h1 : w = v ∧ S u = true
    · obtain ⟨rfl, hu⟩ := h1; simp [h hu]
    · have : (decide (w = v) && S u) = false := by
        cases hs : S u with
        | false => simp
        | true => simp; intro e; exact h1 ⟨e, hs⟩
      rw [this, Bool.or_false]
/-- If nothing was added, the bound holds. -/
theorem closed_of {k : Nat} {S : Nat → Bool} {b : Bd} {T : Nat → Bool} (h : ∀ w, updS k S b w = true → T w = true) (hT : ∀ w, T w = true → S w = true) : Cl k T b := by
  cases b with
  | loan v k' => intro e; subst e; exact h v (by simp [updS])
  | frm v u => intro hu; exact h v (by simp [updS, hT u hu])
def passS (k : Nat) (B : List Bd) (S : Nat → Bool) : Nat → Bool := B.foldl (fun S b => updS k S b) S
theorem passS_mono {k : Nat} : ∀ (B : List Bd) {S : Nat → Bool} {w : Nat}, S w = true → passS k B S w = true
  | [], _, _, h => h
  | b :: B, S, _, h => passS_mono B (S := updS k S b) (updS_mono b h)
theorem passS_sound {B0 : List Bd} {k : Nat} : ∀ (B : List Bd) {S : Nat → Bool}, (∀ b ∈ B, b ∈ B0) → (∀ w, S w = true → Rg B0 k w) → ∀ w, passS k B S w = true → Rg B0 k w
  | [], _, _, h => h
  | b :: B, S, hb, h => passS_sound B (S := updS k S b) (fun c hc => hb c (by simp [hc])) (updS_sound h (hb b (by simp)))
theorem passS_closed {k : Nat} : ∀ (B : List Bd) {S : Nat → Bool}, (∀ b ∈ B, Cl k S b) → passS k B S = S
  | [], _, _ => rfl
  | b :: B, S, h => by
    show passS k B (updS k S b) = S
    rw [updS_closed (h b (by simp))]
    exact passS_closed B fun c hc => h c (by simp [hc])
theorem pass_closed_of {k : Nat} {T : Nat → Bool} : ∀ (B : List Bd) {S : Nat → Bool}, (∀ w, passS k B S w = true → T w = true) → (∀ w, T w = true → S w = true) → ∀ b ∈ B, Cl k T b
  | [], _, _, _ => by simp
  | b :: B, S, h, hT => by
    intro c hc
    rcases List.mem_cons.1 hc with rfl | hc
    · exact closed_of (S := S) (fun w hw => h w (passS_mono B hw)) hT
    · exact pass_closed_of B (S := updS k S b) h (fun w hw => updS_mono b (hT w hw)) c hc
def iterS (k : Nat) (B : List Bd) (S : Nat → Bool) : Nat → Nat → Bool
  | 0 => S
  | r + 1 => passS k B (iterS k B S r)
theorem countP_lt {α : Type} {p q : α → Bool} : ∀ (l : List α), (∀ x ∈ l, p x = true → q x = true) → (∃ x ∈ l, q x = true ∧ p x = false) → l.countP p < l.countP q
  | [], _, h => by obtain ⟨x, hx, _⟩ := h; simp at hx
  | a :: l, h1, h2 => by
    have hle : l.countP p ≤ l.countP q := List.countP_mono_left (fun x hx hp => h1 x (by simp [hx]) hp)
    obtain ⟨x, hx, hq, hp⟩ := h2
    rw [List.countP_cons, List.countP_cons]
    rcases List.mem_cons.1 hx with rfl | hx
    · simp [hq, hp]; omega
    · have hlt := countP_lt l (fun x hx hp => h1 x (by simp [hx]) hp) ⟨x, hx, hq, hp⟩
      have : (if p a = true then 1 else 0) ≤ (if q a = true then 1 else 0) := by
        by_cases ha : p a = true
        · rw [if_pos ha, if_pos (h1 a (by simp) ha)]; exact Nat.le_refl _
        · rw [if_neg ha]; exact Nat.zero_le _
      omega
theorem updS_low {n m k : Nat} {S : Nat → Bool} (hS : ∀ w, S w = true → w < n) {b : Bd} (hb : b.ok n m) : ∀ w, updS k S b w = true → w < n := by
  intro w hw
  cases b with
  | loan v k' =>
    simp [updS] at hw
    rcases hw with hw | ⟨rfl, rfl⟩
    · exact hS w hw
    · exact hb.1
  | frm v u =>
    simp [updS] at hw
    rcases hw with hw | ⟨rfl, hu⟩
    · exact hS w hw
    · exact hb.1
theorem passS_low {n m k : Nat} : ∀ (B : List Bd) {S : Nat → Bool}, (∀ b ∈ B, b.ok n m) → (∀ w, S w = true → w < n) → ∀ w, passS k B S w = true → w < n
  | [], _, _, h => h
  | b :: B, S, hb, h => passS_low B (S := updS k S b) (fun c hc => hb c (by simp [hc])) (updS_low h (hb b (by simp)))
theorem iterS_low {n m k : Nat} {B : List Bd} (hB : ∀ b ∈ B, b.ok n m) : ∀ r w, iterS k B (fun _ => false) r w = true → w < n
  | 0, w, h => by simp [iterS] at h
  | r + 1, w, h => passS_low B hB (iterS_low hB r) w h
theorem iterS_sound {k : Nat} {B : List Bd} : ∀ r w, iterS k B (fun _ => false) r w = true → Rg B k w
  | 0, w, h => by simp [iterS] at h
  | r + 1, w, h => passS_sound B (fun _ h => h) (iterS_sound r) w h
theorem iterS_step {n m k : Nat} {B : List Bd} (hB : ∀ b ∈ B, b.ok n m) : ∀ r, (∀ b ∈ B, Cl k (iterS k B (fun _ => false) r) b) ∨ r ≤ (List.range n).countP (iterS k B (fun _ => false) r)
  | 0 => .inr (Nat.zero_le _)
  | r + 1 => by
    have e : iterS k B (fun _ => false) (r + 1) = passS k B (iterS k B (fun _ => false) r) := rfl
    rcases iterS_step hB r with h | h
    · left; rw [e, passS_closed B h]; exact h
    · by_cases hx : ∃ w, iterS k B (fun _ => false) (r + 1) w = true ∧ iterS k B (fun _ => false) r w = false
      · obtain ⟨w, hw, hw'⟩ := hx
        right
        have := countP_lt (p := iterS k B (fun _ => false) r) (q := iterS k B (fun _ => false) (r + 1)) (List.range n) (fun x _ hp => by rw [e]; exact passS_mono B hp) ⟨w, by simp; exact iterS_low hB _ w hw, hw, hw'⟩
        omega
      · have hc : ∀ b ∈ B, Cl k (iterS k B (fun _ => false) r) b := pass_closed_of B (S := iterS k B (fun _ => false) r) (fun w hw => by
          cases hh : iterS k B (fun _ => false) r w with
          | true => rfl
          | false => exact absurd ⟨w, hw, hh⟩ hx) (fun _ h => h)
        left; rw [e, passS_closed B hc]; exact hc
/-- After one round more than there are variables all bounds hold. -/
theorem iterS_done {n m k : Nat} {B : List Bd} (hB : ∀ b ∈ B, b.ok n m) (w : Nat) : iterS k B (fun _ => false) (n + 1) w = true ↔ Rg B k w := by
  refine ⟨iterS_sound _ w, fun h => ?_⟩
  rcases iterS_step (k := k) hB (n + 1) with h1 | h1
  · exact rg_of_closed h1 h
  · have : (List.range n).countP (iterS k B (fun _ => false) (n + 1)) ≤ (List.range n).length := List.countP_le_length
    simp at this
    omega

/-! ### Sets of loans as numbers -/

def bitN (R : List Nat) (k v : Nat) : Bool := (R.getD v 0).testBit k
def newN (R : List Nat) : Bd → Nat
  | .loan v k => R.getD v 0 ||| 2 ^ k
  | .frm v u => R.getD v 0 ||| R.getD u 0
def Bd.var : Bd → Nat
  | .loan v _ => v
  | .frm v _ => v
def updN (R : List Nat) (b : Bd) : List Nat := R.set b.var (newN R b)
theorem getD_set_same {α : Type} (R : List α) (v : Nat) (x d : α) (hv : v < R.length) : (R.set v x).getD v d = x := by
  rw [List.getD_eq_getElem?_getD, List.getElem?_set_self hv]; rfl
theorem getD_set_ne {α : Type} (R : List α) {v w : Nat} (x d : α) (h : w ≠ v) : (R.set v x).getD w d = R.getD w d := by
  rw [List.getD_eq_getElem?_getD, List.getElem?_set_ne (fun e => h e.symm), List.getD_eq_getElem?_getD]
theorem bitN_upd {R : List Nat} {b : Bd} (hv : b.var < R.length) (k w : Nat) : bitN (updN R b) k w = updS k (bitN R k) b w := by
  unfold bitN updN
  cases b with
  | loan v k' =>
    by_cases e : w = v
    · subst e
      have h := getD_set_same R w (newN R (.loan w k')) 0 hv
      show ((R.set w (newN R (.loan w k'))).getD w 0).testBit k = _
      rw [h]
      simp [newN, updS, Nat.testBit_or, Nat.testBit_two_pow]
    · have h := getD_set_ne R (newN R (.loan v k')) 0 e
      show ((R.set v (newN R (.loan v k'))).getD w 0).testBit k = _
      rw [h]
      simp [updS, e]
  | frm v u =>
    by_cases e : w = v
    · subst e
      have h := getD_set_same R w (newN R (.frm w u)) 0 hv
      show ((R.set w (newN R (.frm w u))).getD w 0).testBit k = _
      rw [h]
      simp [newN, updS, Nat.testBit_or]
    · have h := getD_set_ne R (newN R (.frm v u)) 0 e
      show ((R.set v (newN R (.frm v u))).getD w 0).testBit k = _
      rw [h]
      simp [updS, e]
def unset (x : Nat) : Nat := (List.range 64).countP fun k => !x.testBit k
def unsets (R : List Nat) : Nat := (R.map unset).sum
theorem sum_set : ∀ (l : List Nat) (v y : Nat) (h : v < l.length), (l.set v y).sum + l[v] = l.sum + y
  | a :: l, 0, y, _ => by simp; omega
  | a :: l, v + 1, y, h => by
    have := sum_set l v y (by simpa using h)
    simp only [List.set_cons_succ, List.sum_cons, List.getElem_cons_succ]
    omega
theorem unset_lt {x y : Nat} (hxy : ∀ k, x.testBit k = true → y.testBit k = true) (hne : y ≠ x) (hy : y < 2 ^ 64) : unset y < unset x := by
  unfold unset
  refine countP_lt _ (fun k _ h => ?_) ?_
  · simp at h ⊢
    cases hx : x.testBit k with
    | false => rfl
    | true => rw [hxy k hx] at h; simp at h
  · refine Classical.byContradiction fun hno => hne (Nat.eq_of_testBit_eq fun k => ?_)
    cases hx : x.testBit k with
    | true => exact hxy k hx
    | false =>
      cases hyk : y.testBit k with
      | false => rfl
      | true =>
        exfalso
        refine hno ⟨k, ?_, by simp [hx], by simp [hyk]⟩
        simp
        refine Classical.byContradiction fun hk => ?_
        rw [Nat.testBit_lt_two_pow (Nat.lt_of_lt_of_le hy (Nat.pow_le_pow_right (by omega) (by omega)))] at hyk
        simp at hyk
def Small (R : List Nat) : Prop := ∀ v, R.getD v 0 < 2 ^ 64
theorem newN_small {R : List Nat} (hR : Small R) {n : Nat} {b : Bd} (hb : b.ok n 64) : newN R b < 2 ^ 64 := by
  cases b with
  | loan v k => exact Nat.or_lt_two_pow (hR v) (Nat.pow_lt_pow_right (by omega) hb.2)
  | frm v u => exact Nat.or_lt_two_pow (hR v) (hR u)
theorem updN_small {R : List Nat} (hR : Small R) {n : Nat} {b : Bd} (hb : b.ok n 64) (hv : b.var < R.length) : Small (updN R b) := by
  intro w
  unfold updN
  by_cases e : w = b.var
  · rw [e, getD_set_same _ _ _ _ hv]; exact newN_small hR hb
  · rw [getD_set_ne _ _ _ e]; exact hR w
theorem newN_mono (R : List Nat) (b : Bd) (k : Nat) (h : (R.getD b.var 0).testBit k = true) : (newN R b).testBit k = true := by
  cases b <;> (simp only [Bd.var] at h; simp only [newN, Nat.testBit_or, h, Bool.true_or])
theorem unsets_lt {R : List Nat} (hR : Small R) {n : Nat} {b : Bd} (hb : b.ok n 64) (hv : b.var < R.length) (hne : newN R b ≠ R.getD b.var 0) : unsets (updN R b) < unsets R := by
  unfold unsets updN
  rw [List.map_set]
  have h1 := sum_set (R.map unset) b.var (unset (newN R b)) (by simpa using hv)
  have h2 := unset_lt (newN_mono R b) hne (newN_small hR hb)
  rw [List.getD_eq_getElem?_getD, List.getElem?_eq_getElem hv] at h2
  simp at h1 h2
  omega
theorem unset_le (x : Nat) : unset x ≤ 64 := by
  unfold unset
  have : (List.range 64).countP (fun k => !x.testBit k) ≤ (List.range 64).length := List.countP_le_length
  simpa using this
/-- Where nothing is added the bound holds. -/
theorem newN_closed {R : List Nat} {b : Bd} (h : newN R b = R.getD b.var 0) (k : Nat) : Cl k (bitN R k) b := by
  cases b with
  | loan v k' =>
    rintro rfl
    simp only [newN, Bd.var] at h
    unfold bitN
    rw [← h, Nat.testBit_or, Nat.testBit_two_pow]
    simp
  | frm v u =>
    intro hu
    simp only [newN, Bd.var] at h
    unfold bitN at *
    rw [← h, Nat.testBit_or, hu]
    simp
end Go.Proofs.Ytpnaeijkllmihaa

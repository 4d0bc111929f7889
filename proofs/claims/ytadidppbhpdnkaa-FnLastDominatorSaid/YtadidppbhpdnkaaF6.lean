/- The last dominator: what it is; walks of slices.DeleteFunc and slices.ContainsFunc at its closures. -/
import Derived.Test.YtadidppbhpdnkaaY4

import Derived.Test.YtadidppbhpdnkaaN1

import Derived.Lib.SliceRun

namespace Go.Proofs.Ytadidppbhpdnkaa

open Go.RowKit

/-! ### What it is -/

noncomputable def okDom (L : List Pt) (l : List Int) (b x : Int) : Bool := decide (x ≠ b) && l.all fun c => decide (c = b) || domL L c.toNat x.toNat
theorem okDom_def (L : List Pt) (l : List Int) (b x : Int) : okDom L l b x = (decide (x ≠ b) && l.all fun c => decide (c = b) || domL L c.toNat x.toNat) := rfl
noncomputable def lastIn (L : List Pt) (l : List Int) (b : Int) : Int × Bool := match l.find? (okDom L l b) with | some a => (a, true) | none => (0, false)
/-- What LastDominator hands back. -/
noncomputable def lastDom (p : Pr) (b : Int) : Int × Bool := lastIn (ptsOf p) (domsOf p b) b
theorem find_at {P : Int → Bool} : ∀ {l : List Int} {i : Nat} (h : i < l.length), (∀ j (hj : j < l.length), j < i → P l[j] = false) → P l[i] = true → l.find? P = some l[i]
  | [], i, h, _, _ => absurd h (by simp)
  | x :: r, 0, h, _, hp => by
    rw [List.find?_cons_of_pos (by simpa using hp)]; rfl
  | x :: r, i + 1, h, hn, hp => by
    have h0 : P x = false := hn 0 (by simp) (by omega)
    rw [List.find?_cons_of_neg (by simp [h0])]
    exact find_at (l := r) (i := i) (by simpa using h) (fun j hj hji => hn (j + 1) (by simpa using hj) (by omega)) hp
theorem find_none {P : Int → Bool} {l : List Int} (h : ∀ j (hj : j < l.length), P l[j] = false) : l.find? P = none := by
  rw [List.find?_eq_none]
  intro x hx
  obtain ⟨j, hj, rfl⟩ := List.getElem_of_mem hx
  simp [h j hj]
theorem lastIn_at {L : List Pt} {l : List Int} {b : Int} {i : Nat} (h : i < l.length) (hn : ∀ j (hj : j < l.length), j < i → okDom L l b l[j] = false) (hp : okDom L l b l[i] = true) : lastIn L l b = (l[i], true) := by
  unfold lastIn; rw [find_at h hn hp]
theorem lastIn_none {L : List Pt} {l : List Int} {b : Int} (h : ∀ j (hj : j < l.length), okDom L l b l[j] = false) : lastIn L l b = (0, false) := by
  unfold lastIn; rw [find_none h]
/-- The same over the list without b. -/
def others (l : List Int) (b : Int) : List Int := l.filter fun x => !decide (x = b)
theorem okDom_others {L : List Pt} {l : List Int} {b x : Int} (hx : x ∈ others l b) : okDom L l b x = !(others l b).any fun c => !domL L c.toNat x.toNat := by
  have hxb : x ≠ b := by have := (List.mem_filter.1 hx).2; simpa using this
  unfold okDom others
  rw [decide_eq_true hxb, Bool.true_and]
  cases h : (l.filter fun x => !decide (x = b)).any fun c => !domL L c.toNat x.toNat with
  | true =>
    obtain ⟨c, hc, hd⟩ := List.any_eq_true.1 h
    have hm := List.mem_filter.1 hc
    refine List.all_eq_false.2 ⟨c, hm.1, ?_⟩
    simp at hm hd
    simp [hm.2, hd]
  | false =>
    refine List.all_eq_true.2 fun c hc => ?_
    by_cases hcb : c = b
    · simp [hcb]
    · have := List.any_eq_false.1 h c (List.mem_filter.2 ⟨hc, by simp [hcb]⟩)
      simp at this
      simp [this]
theorem lastIn_others {L : List Pt} {l : List Int} {b : Int} : lastIn L l b = match (others l b).find? (fun x => !(others l b).any fun c => !domL L c.toNat x.toNat) with | some a => (a, true) | none => (0, false) := by
  have h1 : l.find? (okDom L l b) = (others l b).find? (okDom L l b) := by
    unfold others
    rw [List.find?_filter]
    congr 1
    funext x
    rw [Bool.eq_iff_iff]
    simp [okDom_def]
  have h2 : (others l b).find? (okDom L l b) = (others l b).find? (fun x => !(others l b).any fun c => !domL L c.toNat x.toNat) := by
    have : ∀ (m : List Int), (∀ x ∈ m, x ∈ others l b) → m.find? (okDom L l b) = m.find? (fun x => !(others l b).any fun c => !domL L c.toNat x.toNat) := by
      intro m
      induction m with
      | nil => intro _; rfl
      | cons x r ih =>
        intro hm
        rw [List.find?_cons, List.find?_cons, okDom_others (hm x (by simp)), ih fun y hy => hm y (by simp [hy])]
    exact this _ fun x hx => hx
  unfold lastIn
  rw [h1, h2]
theorem others_at {L : List Pt} {l : List Int} {b : Int} {i : Nat} (h : i < (others l b).length) (hn : ∀ j (hj : j < (others l b).length), j < i → ((others l b).any fun c => !domL L c.toNat (others l b)[j].toNat) = true) (hp : ((others l b).any fun c => !domL L c.toNat (others l b)[i].toNat) = false) : lastIn L l b = ((others l b)[i], true) := by
  rw [lastIn_others, find_at h (fun j hj hji => by simp [hn j hj hji]) (by simp only [hp]; rfl)]
theorem others_none {L : List Pt} {l : List Int} {b : Int} (h : ∀ j (hj : j < (others l b).length), ((others l b).any fun c => !domL L c.toNat (others l b)[j].toNat) = true) : lastIn L l b = (0, false) := by
  rw [lastIn_others, find_none (fun j hj => by simp [h j hj])]
theorem others_len (l : List Int) (b : Int) : (others l b).length ≤ l.length := List.length_filter_le _ _
theorem others_mem {l : List Int} {b x : Int} (h : x ∈ others l b) : x ∈ l ∧ x ≠ b := by have := List.mem_filter.1 h; exact ⟨this.1, by simpa using this.2⟩
theorem domsOf_mem {p : Pr} {b x : Int} (h : x ∈ domsOf p b) : ∃ k : Nat, x = k ∧ k < (ptsOf p).length := by
  unfold domsOf at h
  split at h
  · obtain ⟨k, hk, _, e⟩ := mem_coll.1 h
    exact ⟨k, e, hk⟩
  · simp at h

/-! ### The dominators of a point are a row -/

theorem dom_either {L : List Pt} {a c b : Nat} (ha : domL L a b = true) (hc : domL L c b = true) (hab : a ≠ b) (hcb : c ≠ b) (hr : Rch L [0] (-1) b) : domL L a c = true ∨ domL L c a = true := by
  by_cases e : a = c
  · subst e; exact .inl (dom_self _ _)
  have na : ¬ Rch L [0] a b := by
    rcases domL_iff.1 ha with h | h
    · exact absurd h hab
    · exact h
  have nc : ¬ Rch L [0] c b := by
    rcases domL_iff.1 hc with h | h
    · exact absurd h hcb
    · exact h
  by_cases h1 : Rch L [0] a c
  · by_cases h2 : Rch L [0] c a
    · exfalso
      have key : ∀ k, Rch L [0] (-1) k → Rch L [0] a k ∨ Rch L [0] c k := by
        intro k hk
        induction hk with
        | @start k hm _ =>
          by_cases e1 : k = a
          · subst e1; exact .inr (.start hm (by omega))
          · exact .inl (.start hm (by omega))
        | @step j k _ hn _ ih =>
          rcases ih with h | h
          · by_cases e1 : k = a
            · subst e1; exact .inr h2
            · exact .inl (.step h hn (by omega))
          · by_cases e1 : k = c
            · subst e1; exact .inl h1
            · exact .inr (.step h hn (by omega))
      rcases key b hr with h | h
      · exact na h
      · exact nc h
    · exact .inr (domL_iff.2 (.inr h2))
  · exact .inl (domL_iff.2 (.inr h1))
/-- A row of points of which each two are in order has a last one. -/
theorem last_exists {L : List Pt} : ∀ (m : List Int), m ≠ [] → (∀ x ∈ m, ∀ y ∈ m, domL L x.toNat y.toNat = true ∨ domL L y.toNat x.toNat = true) → ∃ a ∈ m, ∀ c ∈ m, domL L c.toNat a.toNat = true
  | [], h, _ => absurd rfl h
  | [x], _, _ => ⟨x, by simp, fun c hc => by simp at hc; subst hc; exact dom_self _ _⟩
  | x :: y :: r, _, ht => by
    obtain ⟨a, ha, hall⟩ := last_exists (L := L) (y :: r) (by simp) (fun u hu v hv => ht u (by simp [hu]) v (by simp [hv]))
    rcases ht x (by simp) a (List.mem_cons_of_mem _ ha) with h | h
    · exact ⟨a, List.mem_cons_of_mem _ ha, fun c hc => by
        rcases List.mem_cons.1 hc with rfl | hc
        · exact h
        · exact hall c hc⟩
    · exact ⟨x, by simp, fun c hc => by
        rcases List.mem_cons.1 hc with rfl | hc
        · exact dom_self _ _
        · exact dom_trans (hall c hc) h⟩
/-- What FnLastDominator asks. -/
theorem lastDom_none {p : Pr} {b : Int} (h : (lastDom p b).2 = false) : (domsOf p b).length ≤ 1 := by
  by_cases h2 : hasTwo p b b = true
  · obtain ⟨j, j', rfl, -, hj, -⟩ := two_of h2
    have hv : validP p = true := valid_of rfl hj
    have hpp : ptsOf p = pts p := ptsOf_some (by omega)
    by_cases hne : others (domsOf p j) j = []
    · have hall : ∀ x ∈ domsOf p j, x = (j : Int) := fun x hx => Classical.byContradiction fun hn => by
        have : x ∈ others (domsOf p j) j := List.mem_filter.2 ⟨hx, by simp [hn]⟩
        rw [hne] at this; simp at this
      have hd : domsOf p j = coll (fun a => domL (ptsOf p) a j) (ptsOf p).length := domsOf_in h2
      have hle : ∀ (f : Nat → Bool) (n : Nat), (∀ k, k < n → f k = true → k = j) → (coll f n).length ≤ (if j < n then 1 else 0) := by
        intro f n
        induction n with
        | zero => intro _; simp [coll]
        | succ n ih =>
          intro hf
          have ih := ih fun k hk => hf k (by omega)
          unfold coll
          cases hfn : f n with
          | true =>
            have e := hf n (by omega) hfn
            subst e
            rw [if_neg (by omega)] at ih
            simp only [if_true, List.length_append, List.length_cons, List.length_nil]
            rw [if_pos (by omega)]; omega
          | false =>
            simp only [Bool.false_eq_true, if_false]
            split at ih <;> split <;> omega
      rw [hd]
      refine Nat.le_trans (hle _ _ fun k hk hf => ?_) (by split <;> omega)
      have := hall (k : Int) (by rw [hd]; exact mem_coll.2 ⟨k, hk, hf, rfl⟩)
      omega
    · exfalso
      have hr : Rch (ptsOf p) [0] (-1) j := by rw [hpp]; exact all_reached p j (by rw [← hpp]; exact hj)
      have hm : ∀ x ∈ others (domsOf p j) j, domL (ptsOf p) x.toNat j = true ∧ x.toNat ≠ j := fun x hx => by
        obtain ⟨h1, h2'⟩ := others_mem hx
        obtain ⟨k, hk, hd, rfl⟩ := (mem_doms hj).1 h1
        exact ⟨by simpa using hd, by simp; omega⟩
      obtain ⟨a, ha, hall⟩ := last_exists (L := ptsOf p) (others (domsOf p j) j) hne (fun x hx y hy => dom_either (hm x hx).1 (hm y hy).1 (hm x hx).2 (hm y hy).2 hr)
      unfold lastDom at h
      rw [lastIn_others] at h
      cases hf : (others (domsOf p j) j).find? (fun x => !(others (domsOf p j) j).any fun c => !domL (ptsOf p) c.toNat x.toNat) with
      | some x => rw [hf] at h; simp at h
      | none =>
        have := List.find?_eq_none.1 hf a ha
        simp at this
        obtain ⟨c, hc, hd⟩ := this
        rw [hall c hc] at hd
        cases hd
  · unfold domsOf
    rw [if_neg h2]; simp
theorem lastDom_some {p : Pr} {b a : Int} (h : lastDom p b = (a, true)) : a ∈ domsOf p b ∧ a ≠ b ∧ ∀ c ∈ domsOf p b, c ≠ b → dominates p c a = true := by
  unfold lastDom lastIn at h
  cases hf : (domsOf p b).find? (okDom (ptsOf p) (domsOf p b) b) with
  | none => rw [hf] at h; simp at h
  | some x =>
    rw [hf] at h
    simp at h
    subst h
    have hm := List.mem_of_find?_eq_some hf
    have hp := List.find?_some hf
    unfold okDom at hp
    rw [Bool.and_eq_true] at hp
    refine ⟨hm, by simpa using hp.1, fun c hc hcb => ?_⟩
    have := List.all_eq_true.1 hp.2 c hc
    simp [hcb] at this
    obtain ⟨k, rfl, hk⟩ := domsOf_mem hc
    obtain ⟨m, rfl, hm'⟩ := domsOf_mem hm
    rw [dom_nat hk hm']
    simpa using this
end Go.Proofs.Ytadidppbhpdnkaa

/- Plain laws: a search that goes breadth first, the points before, the way back. No program in sight. -/
import Derived.Test.YtadidppbhpdnkaaY3

namespace Go.Proofs.Ytadidppbhpdnkaa

open Go.RowKit

abbrev Tab := Nat → Option Nat
def updT (T : Tab) (k a : Nat) : Tab := fun j => if j = k then some a else T j
/-- One next point k of a is met: the table and the queue behind it. -/
def visit (a : Nat) (s : Tab × List Nat) (k : Nat) : Tab × List Nat := if s.1 k = none then (updT s.1 k a, s.2 ++ [k]) else s
def visits (a : Nat) (s : Tab × List Nat) (l : List Nat) : Tab × List Nat := l.foldl (visit a) s
theorem visits_cons (a : Nat) (s : Tab × List Nat) (k : Nat) (l : List Nat) : visits a s (k :: l) = visits a (visit a s k) l := rfl
/-- One table has what another one has. -/
def LeT (T U : Tab) : Prop := ∀ k a, T k = some a → U k = some a
theorem LeT.refl (T : Tab) : LeT T T := fun _ _ h => h
theorem LeT.trans {T U V : Tab} (h : LeT T U) (h' : LeT U V) : LeT T V := fun k a e => h' k a (h k a e)
theorem LeT.upd {T : Tab} {k : Nat} (a : Nat) (h : T k = none) : LeT T (updT T k a) := fun j b e => by
  unfold updT
  by_cases hj : j = k
  · subst hj; rw [h] at e; cases e
  · rw [if_neg hj]; exact e
theorem visit_le (a : Nat) (s : Tab × List Nat) (k : Nat) : LeT s.1 (visit a s k).1 := by
  unfold visit
  split
  · rename_i h; exact LeT.upd a h
  · exact LeT.refl _
theorem visits_le (a : Nat) : ∀ (l : List Nat) (s : Tab × List Nat), LeT s.1 (visits a s l).1
  | [], _ => LeT.refl _
  | k :: l, s => (visit_le a s k).trans (visits_le a l (visit a s k))
/-- The search ends with the table F. -/
inductive Fin' (L : List Pt) : Tab × List Nat → Tab → Prop
  | nil {T : Tab} : Fin' L (T, []) T
  | pop {T F : Tab} {a : Nat} {Q : List Nat} : Fin' L (visits a (T, Q) (nextOf L a)) F → Fin' L (T, a :: Q) F
theorem Fin'.le {L : List Pt} {s : Tab × List Nat} {F : Tab} (h : Fin' L s F) : LeT s.1 F := by
  induction h with
  | nil => exact LeT.refl _
  | @pop T F a Q _ ih => exact (visits_le a (nextOf L a) (T, Q)).trans ih
theorem Fin'.unique {L : List Pt} {s : Tab × List Nat} {F G : Tab} (h : Fin' L s F) (h' : Fin' L s G) : F = G := by
  induction h with
  | nil => cases h'; rfl
  | pop _ ih => cases h' with | pop h2 => exact ih h2
/-- How many points are in the table. -/
def cntT (n : Nat) (T : Tab) : Nat := (List.range n).countP fun k => (T k).isSome
theorem cntT_le (n : Nat) (T : Tab) : cntT n T ≤ n := by
  unfold cntT
  have := List.countP_le_length (p := fun k => (T k).isSome) (l := List.range n)
  simpa using this
theorem cntT_upd {n : Nat} {T : Tab} {k : Nat} (a : Nat) (hk : k < n) (h : T k = none) : cntT n (updT T k a) = cntT n T + 1 := by
  unfold cntT
  induction n with
  | zero => omega
  | succ n ih =>
    rw [List.range_succ, List.countP_append, List.countP_append, List.countP_cons, List.countP_cons, List.countP_nil]
    by_cases e : k = n
    · subst e
      have h1 : (List.range k).countP (fun j => (updT T k a j).isSome) = (List.range k).countP (fun j => (T j).isSome) := by
        refine List.countP_congr fun j hj => ?_
        have : j ≠ k := by simp at hj; omega
        simp [updT, this]
      rw [h1]
      simp [updT, h]
    · have := ih (by omega)
      rw [this]
      have hn : n ≠ k := fun h => e h.symm
      simp [updT, hn]
      omega
/-- The way from f to v by the points before. -/
inductive Chn (T : Tab) (f : Nat) : Nat → List Nat → Prop
  | base {v : Nat} : T v = some f → Chn T f v [f, v]
  | step {v a : Nat} {l : List Nat} : T v = some a → a ≠ f → Chn T f a l → Chn T f v (l ++ [v])
theorem Chn.mono {T U : Tab} {f v : Nat} {l : List Nat} (h : Chn T f v l) (hT : LeT T U) : Chn U f v l := by
  induction h with
  | base h => exact .base (hT _ _ h)
  | step h hne _ ih => exact .step (hT _ _ h) hne ih
theorem Chn.unique {T : Tab} {f v : Nat} {l m : List Nat} (h : Chn T f v l) (h' : Chn T f v m) : l = m := by
  induction h generalizing m with
  | base h =>
    cases h' with
    | base _ => rfl
    | step h2 hne _ => rw [h] at h2; cases h2; exact absurd rfl hne
  | step h hne _ ih =>
    cases h' with
    | base h2 => rw [h] at h2; cases h2; exact absurd rfl hne
    | step h2 _ h3 => rw [h] at h2; cases h2; rw [ih h3]
theorem Chn.has {T : Tab} {f v : Nat} {l : List Nat} (h : Chn T f v l) : ∃ a, T v = some a := by
  cases h with
  | base h => exact ⟨_, h⟩
  | step h _ _ => exact ⟨_, h⟩
theorem Chn.two {T : Tab} {f v : Nat} {l : List Nat} (h : Chn T f v l) : 2 ≤ l.length := by
  induction h with
  | base _ => simp
  | step _ _ _ ih => simp; omega
theorem Chn.last {T : Tab} {f v : Nat} {l : List Nat} (h : Chn T f v l) : l[l.length - 1]? = some v := by
  cases h with
  | base _ => simp
  | step _ _ _ => simp
/-- The first steps of a way are one. -/
theorem Chn.pre {T : Tab} {f v : Nat} {l : List Nat} (h : Chn T f v l) : ∀ i, 1 ≤ i → ∀ h' : i < l.length, Chn T f l[i] (l.take (i + 1)) := by
  induction h with
  | @base v h =>
    intro i hi h'
    obtain rfl : i = 1 := by simp at h'; omega
    exact .base h
  | @step v a l h hne hc ih =>
    intro i hi h'
    by_cases e : i < l.length
    · rw [List.getElem_append_left e, List.take_append_of_le_length (by omega)]
      exact ih i hi e
    · obtain rfl : i = l.length := by simp at h'; omega
      rw [List.getElem_append_right (Nat.le_refl _)]
      simp only [Nat.sub_self, List.getElem_cons_zero]
      rw [List.take_of_length_le (by simp)]
      exact .step h hne hc
/-- A search under way. -/
structure Srh (n f : Nat) (s : Tab × List Nat) : Prop where
  tab : ∀ k a, s.1 k = some a → k < n ∧ a < n
  way : ∀ k a, s.1 k = some a → ∃ l, Chn s.1 f k l ∧ l.length ≤ cntT n s.1 + 1
  que : ∀ q ∈ s.2, q < n ∧ (q = f ∨ ∃ a, s.1 q = some a)
theorem Srh.start {n f : Nat} (h : f < n) : Srh n f (fun _ => none, [f]) := ⟨fun k a h => by simp at h, fun k a h => by simp at h, fun q hq => by simp at hq; subst hq; exact ⟨h, .inl rfl⟩⟩
theorem Srh.visit {n f a k : Nat} {s : Tab × List Nat} (h : Srh n f s) (ha : a < n) (haf : a = f ∨ ∃ b, s.1 a = some b) (hk : k < n) : Srh n f (visit a s k) := by
  unfold Go.Proofs.Ytadidppbhpdnkaa.visit
  split
  · rename_i hn
    have hle : LeT s.1 (updT s.1 k a) := LeT.upd a hn
    have hc := cntT_upd a hk hn
    refine ⟨fun j b e => ?_, fun j b e => ?_, fun q hq => ?_⟩
    · by_cases ej : j = k
      · subst ej
        simp [updT] at e
        subst e; exact ⟨hk, ha⟩
      · simp [updT, ej] at e; exact h.tab j b e
    · by_cases ej : j = k
      · subst ej
        rcases haf with rfl | ⟨c, hac⟩
        · exact ⟨[a, j], .base (by simp [updT]), by simp; omega⟩
        · by_cases eaf : a = f
          · subst eaf; exact ⟨[a, j], .base (by simp [updT]), by simp; omega⟩
          · obtain ⟨l, hl, hll⟩ := h.way a c hac
            exact ⟨l ++ [j], .step (by simp [updT]) eaf (hl.mono hle), by simp; omega⟩
      · simp [updT, ej] at e
        obtain ⟨l, hl, hll⟩ := h.way j b e
        exact ⟨l, hl.mono hle, by simp only; omega⟩
    · simp at hq
      rcases hq with hq | rfl
      · obtain ⟨h1, h2⟩ := h.que q hq
        exact ⟨h1, h2.imp id fun ⟨c, hc⟩ => ⟨c, hle _ _ hc⟩⟩
      · exact ⟨hk, .inr ⟨a, by simp [updT]⟩⟩
  · exact h
theorem Srh.pop {n f a : Nat} {T : Tab} {Q : List Nat} (h : Srh n f (T, a :: Q)) : Srh n f (T, Q) := ⟨h.tab, h.way, fun q hq => h.que q (by simp [hq])⟩
theorem Srh.visits {n f a : Nat} : ∀ {l : List Nat} {s : Tab × List Nat}, Srh n f s → a < n → (a = f ∨ ∃ b, s.1 a = some b) → (∀ k ∈ l, k < n) → Srh n f (visits a s l)
  | [], _, h, _, _, _ => h
  | k :: l, s, h, ha, haf, hl => by
    rw [visits_cons]
    exact (h.visit ha haf (hl k (by simp))).visits ha (haf.imp id fun ⟨b, hb⟩ => ⟨b, visit_le a s k _ _ hb⟩) fun j hj => hl j (by simp [hj])
/-- What can still come. -/
def leftT (n : Nat) (s : Tab × List Nat) : Nat := 2 * (n - cntT n s.1) + s.2.length
theorem visit_left {n a k : Nat} {s : Tab × List Nat} (hk : k < n) : leftT n (visit a s k) ≤ leftT n s := by
  unfold visit leftT
  split
  · rename_i h
    have h1 := cntT_upd a hk h
    have h2 := cntT_le n (updT s.1 k a)
    simp
    omega
  · exact Nat.le_refl _
theorem visits_left {n a : Nat} : ∀ {l : List Nat} {s : Tab × List Nat}, (∀ k ∈ l, k < n) → leftT n (visits a s l) ≤ leftT n s
  | [], _, _ => Nat.le_refl _
  | k :: l, s, hl => by
    rw [visits_cons]
    exact Nat.le_trans (visits_left fun j hj => hl j (by simp [hj])) (visit_left (hl k (by simp)))
theorem fin_exists {L : List Pt} (hL : NextOk L) : ∀ (m : Nat) (s : Tab × List Nat), leftT L.length s ≤ m → (∀ q ∈ s.2, q < L.length) → ∃ F, Fin' L s F
  | m, (T, []), _, _ => ⟨T, .nil⟩
  | 0, (T, a :: Q), h, _ => by unfold leftT at h; simp at h
  | m + 1, (T, a :: Q), h, hq => by
    have ha := hq a (by simp)
    have hn : ∀ k ∈ nextOf L a, k < L.length := (hL a ha).2
    have h1 : leftT L.length (visits a (T, Q) (nextOf L a)) ≤ m := by
      have := visits_left (n := L.length) (a := a) (s := (T, Q)) hn
      have h2 : leftT L.length (T, Q) + 1 = leftT L.length (T, a :: Q) := by unfold leftT; simp; omega
      omega
    obtain ⟨F, hF⟩ := fin_exists hL m (visits a (T, Q) (nextOf L a)) h1 (by
      have : ∀ (l : List Nat) (s : Tab × List Nat), (∀ q ∈ s.2, q < L.length) → (∀ k ∈ l, k < L.length) → ∀ q ∈ (visits a s l).2, q < L.length := by
        intro l
        induction l with
        | nil => intro s h1 _; exact h1
        | cons k l ih =>
          intro s h1 h2
          rw [visits_cons]
          refine ih _ (fun q hq => ?_) fun j hj => h2 j (by simp [hj])
          unfold visit at hq
          split at hq
          · simp at hq
            rcases hq with hq | rfl
            · exact h1 q hq
            · exact h2 q (by simp)
          · exact h1 q hq
      exact this _ _ (fun q hqq => hq q (by simp [hqq])) hn)
    exact ⟨F, .pop hF⟩
open Classical in

/-- A shortest way, if there is one. -/
noncomputable def shortL (L : List Pt) (f t : Nat) : List Nat × Bool := if h : ∃ l, ∃ F, Fin' L (fun _ => none, [f]) F ∧ Chn F f t l then (Classical.choose h, true) else ([], false)
theorem shortL_some {L : List Pt} {f t : Nat} {F : Tab} {l : List Nat} (hF : Fin' L (fun _ => none, [f]) F) (h : Chn F f t l) : shortL L f t = (l, true) := by
  have hex : ∃ l, ∃ F, Fin' L (fun _ => none, [f]) F ∧ Chn F f t l := ⟨l, F, hF, h⟩
  unfold shortL
  rw [dif_pos hex]
  obtain ⟨F', hF', h'⟩ := Classical.choose_spec hex
  obtain rfl := hF.unique hF'
  rw [h.unique h']
theorem shortL_none {L : List Pt} {f t : Nat} {F : Tab} (hF : Fin' L (fun _ => none, [f]) F) (h : F t = none) : shortL L f t = ([], false) := by
  unfold shortL
  rw [dif_neg]
  rintro ⟨l, F', hF', h'⟩
  obtain rfl := hF.unique hF'
  obtain ⟨a, ha⟩ := h'.has
  rw [h] at ha; cases ha
/-- Parts of shortest ways are shortest. -/
theorem shortL_part {L : List Pt} {f t : Nat} {l : List Nat} (h : shortL L f t = (l, true)) {i : Nat} (hi : 1 ≤ i) (hl : i < l.length) : shortL L f l[i] = (l.take (i + 1), true) := by
  unfold shortL at h
  split at h
  · rename_i hex
    obtain ⟨F, hF, hc⟩ := Classical.choose_spec hex
    have e : Classical.choose hex = l := by simpa using h
    rw [e] at hc
    exact shortL_some hF (hc.pre i hi hl)
  · simp at h
end Go.Proofs.Ytadidppbhpdnkaa

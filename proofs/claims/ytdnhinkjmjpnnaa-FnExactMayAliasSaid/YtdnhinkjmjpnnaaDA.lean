/- Plain laws: the least table that is closed under a step, and what rounds make of a table. -/
import Derived.Test.YtdnhinkjmjpnnaaZ7

namespace Go.Proofs.Ytdnhinkjmjpnnaa

open Go.RowKit

/-! ### Least closed tables -/

section

variable {β : Type}

/-- What is in each table that is closed under the step S. -/
def Least (S : (Nat → β → Prop) → Nat → β → Prop) (i : Nat) (b : β) : Prop := ∀ X : Nat → β → Prop, (∀ i b, S X i b → X i b) → X i b
def MonoS (S : (Nat → β → Prop) → Nat → β → Prop) : Prop := ∀ X Y : Nat → β → Prop, (∀ i b, X i b → Y i b) → ∀ i b, S X i b → S Y i b
theorem Least.step {S : (Nat → β → Prop) → Nat → β → Prop} (hm : MonoS S) {i : Nat} {b : β} (h : S (Least S) i b) : Least S i b :=
  fun X hX => hX _ _ (hm _ _ (fun _ _ hl => hl X hX) _ _ h)
theorem Least.done {S : (Nat → β → Prop) → Nat → β → Prop} {F : Nat → β → Bool} (hs : ∀ i b, F i b = true → Least S i b) (hc : ∀ i b, S (fun i b => F i b = true) i b → F i b = true) (i : Nat) (b : β) : F i b = true ↔ Least S i b :=
  ⟨hs i b, fun h => h _ hc⟩
/-- The same tables, bit by bit. -/
theorem Least.congr {S T : (Nat → β → Prop) → Nat → β → Prop} (h : ∀ X i b, S X i b ↔ T X i b) (i : Nat) (b : β) : Least S i b ↔ Least T i b :=
  ⟨fun hl X hX => hl X fun i b hs => hX i b ((h X i b).1 hs), fun hl X hX => hl X fun i b hs => hX i b ((h X i b).2 hs)⟩

/-! ### Counting what is in a table -/

def cntG (B : List (Nat × β)) (F : Nat → β → Bool) : Nat := B.countP fun q => F q.1 q.2
theorem cntG_le (B : List (Nat × β)) (F : Nat → β → Bool) : cntG B F ≤ B.length := List.countP_le_length
theorem countT_lt {α : Type} {p q : α → Bool} : ∀ {l : List α}, (∀ a ∈ l, p a = true → q a = true) → (∃ a ∈ l, p a = false ∧ q a = true) → l.countP p < l.countP q
  | [], _, h => by obtain ⟨a, ha, _⟩ := h; simp at ha
  | x :: r, h, hx => by
    have hle : r.countP p ≤ r.countP q := List.countP_mono_left fun a ha => h a (by simp [ha])
    obtain ⟨a, ha, h1, h2⟩ := hx
    rcases List.mem_cons.1 ha with rfl | ha
    · rw [List.countP_cons, List.countP_cons, h1, h2]; simp; omega
    · have ih := countT_lt (l := r) (fun a ha => h a (by simp [ha])) ⟨a, ha, h1, h2⟩
      rw [List.countP_cons, List.countP_cons]
      cases hp : p x with
      | false => simp; omega
      | true => rw [h x (by simp) hp]; simp; omega
theorem cntG_lt {B : List (Nat × β)} {F G : Nat → β → Bool} (h : ∀ i b, F i b = true → G i b = true) {i : Nat} {b : β} (hB : (i, b) ∈ B) (hF : F i b = false) (hG : G i b = true) : cntG B F < cntG B G :=
  countT_lt (fun q _ => h q.1 q.2) ⟨(i, b), hB, hF, hG⟩
theorem cntG_mono {B : List (Nat × β)} {F G : Nat → β → Bool} (h : ∀ i b, F i b = true → G i b = true) : cntG B F ≤ cntG B G :=
  List.countP_mono_left fun q _ => h q.1 q.2
/-- How much can still change. -/
def leftG (B : List (Nat × β)) (F : Nat → β → Bool) (c : Bool) : Nat := 2 * (B.length - cntG B F) + (if c = true then 1 else 0)

/-! ### Rounds over all points: what is known behind a point is added to what is known before the next ones -/

/-- What is known before a point: I is known at the beginning, A tells what is known behind a point. -/
def FwS (L : List Pt) (I : β → Prop) (A : Nat → (β → Prop) → β → Prop) (X : Nat → β → Prop) (k : Nat) (b : β) : Prop :=
  (k = 0 ∧ I b) ∨ ∃ i, i < L.length ∧ k ∈ nextOf L i ∧ A i (X i) b
def MonoA (A : Nat → (β → Prop) → β → Prop) : Prop := ∀ i (Y Z : β → Prop), (∀ b, Y b → Z b) → ∀ b, A i Y b → A i Z b
theorem FwS.mono {L : List Pt} {I : β → Prop} {A : Nat → (β → Prop) → β → Prop} (hA : MonoA A) : MonoS (FwS L I A) := by
  rintro X Y h k b (hs | ⟨i, hi, hk, ha⟩)
  · exact .inl hs
  · exact .inr ⟨i, hi, hk, hA i _ _ (h i) b ha⟩
/-- A row is added to a table's row. -/
def mrg (F : Nat → β → Bool) (k : Nat) (R : β → Bool) : Nat → β → Bool := fun i b => if i = k then F i b || R b else F i b
theorem mrg_ge (F : Nat → β → Bool) (k : Nat) (R : β → Bool) (i : Nat) (b : β) (h : F i b = true) : mrg F k R i b = true := by
  unfold mrg; split
  · rw [h]; rfl
  · exact h
theorem mrg_at (F : Nat → β → Bool) (k : Nat) (R : β → Bool) (b : β) (h : R b = true) : mrg F k R k b = true := by
  unfold mrg; rw [if_pos rfl, h, Bool.or_true]
theorem mrg_out {F : Nat → β → Bool} {k : Nat} {R : β → Bool} {i : Nat} {b : β} (h : mrg F k R i b = true) : F i b = true ∨ (i = k ∧ R b = true) := by
  unfold mrg at h; split at h
  · rename_i e
    rw [Bool.or_eq_true] at h
    exact h.imp id fun h => ⟨e, h⟩
  · exact .inl h
/-- All that is in the table is known, and what is known at the beginning is in it. -/
def FwOk (L : List Pt) (I : β → Prop) (A : Nat → (β → Prop) → β → Prop) (F : Nat → β → Bool) : Prop := (∀ i b, F i b = true → Least (FwS L I A) i b) ∧ ∀ b, I b → F 0 b = true
/-- A round under way: from the table F0 on, the points below a have been met; c says whether something has changed. -/
def FwR (B : List (Nat × β)) (L : List Pt) (I : β → Prop) (A : Nat → (β → Prop) → β → Prop) (F0 F : Nat → β → Bool) (c : Bool) (a : Nat) : Prop :=
  FwOk L I A F ∧ (∀ i b, F0 i b = true → F i b = true) ∧ (c = true → cntG B F0 < cntG B F) ∧
  (c = false → F = F0 ∧ ∀ i, i < a → ∀ k ∈ nextOf L i, ∀ b, A i (fun b => F i b = true) b → F k b = true)
/-- At the point a, whose row is R: it has been added to the first j of what comes next. -/
def FwI (B : List (Nat × β)) (L : List Pt) (I : β → Prop) (A : Nat → (β → Prop) → β → Prop) (F0 F : Nat → β → Bool) (c : Bool) (a : Nat) (R : β → Bool) (j : Nat) : Prop :=
  FwOk L I A F ∧ (∀ i b, F0 i b = true → F i b = true) ∧ (c = true → cntG B F0 < cntG B F) ∧ (∀ b, R b = true → A a (Least (FwS L I A) a) b) ∧
  (c = false → F = F0 ∧ (∀ i, i < a → ∀ k ∈ nextOf L i, ∀ b, A i (fun b => F i b = true) b → F k b = true) ∧ (∀ b, A a (fun b => F a b = true) b → R b = true) ∧
    ∀ j' (h : j' < (nextOf L a).length), j' < j → ∀ b, R b = true → F (nextOf L a)[j'] b = true)
variable {B : List (Nat × β)} {L : List Pt} {I : β → Prop} {A : Nat → (β → Prop) → β → Prop} {F0 F : Nat → β → Bool} {c : Bool} {a j : Nat} {R : β → Bool}

theorem FwR.start (h : FwOk L I A F) : FwR B L I A F F false 0 := ⟨h, fun _ _ h => h, (fun h => by cases h), fun _ => ⟨rfl, fun i hi => absurd hi (by omega)⟩⟩
theorem FwR.enter (hA : MonoA A) (h : FwR B L I A F0 F c a) (hR : ∀ b, R b = true ↔ A a (fun b => F a b = true) b) : FwI B L I A F0 F c a R 0 := by
  obtain ⟨h1, h2, h3, h4⟩ := h
  exact ⟨h1, h2, h3, fun b hb => hA a _ _ (fun b hb => h1.1 a b hb) b ((hR b).1 hb), fun hc => ⟨(h4 hc).1, (h4 hc).2, fun b => (hR b).2, fun j' _ hj => absurd hj (by omega)⟩⟩
theorem FwI.same (h : FwI B L I A F0 F c a R j) (hj : j < (nextOf L a).length) (hs : ∀ b, R b = true → F (nextOf L a)[j] b = true) : FwI B L I A F0 F c a R (j + 1) := by
  obtain ⟨h1, h2, h3, h4, h5⟩ := h
  refine ⟨h1, h2, h3, h4, fun hc => ?_⟩
  obtain ⟨e1, e2, e3, e4⟩ := h5 hc
  refine ⟨e1, e2, e3, fun j' hj' hlt => ?_⟩
  by_cases e : j' = j
  · subst e; exact hs
  · exact e4 j' hj' (by omega)
theorem FwOk.mrg (hA : MonoA A) (ha : a < L.length) (h : FwOk L I A F) (hR : ∀ b, R b = true → A a (Least (FwS L I A) a) b) {k : Nat} (hk : k ∈ nextOf L a) : FwOk L I A (mrg F k R) := by
  refine ⟨fun i b hb => ?_, fun b hb => mrg_ge _ _ _ _ _ (h.2 b hb)⟩
  rcases mrg_out hb with h1 | ⟨rfl, h1⟩
  · exact h.1 i b h1
  · exact Least.step (FwS.mono hA) (.inr ⟨a, ha, hk, hR b h1⟩)
theorem FwI.change (hA : MonoA A) (ha : a < L.length) (h : FwI B L I A F0 F c a R j) (hj : j < (nextOf L a).length) {b : β} (hB : ((nextOf L a)[j], b) ∈ B) (hb : R b = true) (hn : F (nextOf L a)[j] b = false) : FwI B L I A F0 (mrg F (nextOf L a)[j] R) true a R (j + 1) := by
  obtain ⟨h1, h2, h3, h4, h5⟩ := h
  refine ⟨h1.mrg hA ha h4 (List.getElem_mem _), fun i b hb => mrg_ge _ _ _ _ _ (h2 i b hb), fun _ => ?_, h4, fun h => by cases h⟩
  exact Nat.lt_of_le_of_lt (cntG_mono h2) (cntG_lt (fun i b hb => mrg_ge _ _ _ _ _ hb) hB hn (mrg_at _ _ _ _ hb))
theorem FwI.exit (h : FwI B L I A F0 F c a R j) (hj : (nextOf L a).length ≤ j) : FwR B L I A F0 F c (a + 1) := by
  obtain ⟨h1, h2, h3, h4, h5⟩ := h
  refine ⟨h1, h2, h3, fun hc => ?_⟩
  obtain ⟨e1, e2, e3, e4⟩ := h5 hc
  refine ⟨e1, fun i hi k hk b hb => ?_⟩
  by_cases e : i = a
  · subst e
    obtain ⟨j', hj', rfl⟩ := List.getElem_of_mem hk
    exact e4 j' hj' (by omega) b (e3 b hb)
  · exact e2 i (by omega) k hk b hb
/-- Behind a round. -/
def FwA (L : List Pt) (I : β → Prop) (A : Nat → (β → Prop) → β → Prop) (F : Nat → β → Bool) (c : Bool) : Prop := FwOk L I A F ∧ (c = false → ∀ i b, F i b = true ↔ Least (FwS L I A) i b)
theorem FwA.start (h : FwOk L I A F) : FwA L I A F true := ⟨h, (fun h => by cases h)⟩
theorem FwR.done (h : FwR B L I A F0 F c a) (ha : L.length ≤ a) : FwA L I A F c := by
  obtain ⟨h1, h2, h3, h4⟩ := h
  refine ⟨h1, fun hc => Least.done h1.1 ?_⟩
  rintro k b (⟨rfl, hb⟩ | ⟨i, hi, hk, hb⟩)
  · exact h1.2 b hb
  · exact (h4 hc).2 i (by omega) k hk b hb
theorem FwR.left (h : FwR B L I A F0 F c a) : leftG B F c < leftG B F0 true := by
  obtain ⟨h1, h2, h3, h4⟩ := h
  have := cntG_le B F
  unfold leftG
  cases c with
  | true => have := h3 rfl; simp; omega
  | false => rw [(h4 rfl).1]; simp
end

/-! ### Backwards: what is needed from a point on -/

/-- U: what a point uses, K: what it does not set. -/
def NeedS (L : List Pt) (U K : Nat → Nat → Bool) (X : Nat → Nat → Prop) (i v : Nat) : Prop := i < L.length ∧ (U i v = true ∨ (K i v = true ∧ ∃ k ∈ nextOf L i, X k v))
theorem NeedS.mono (L : List Pt) (U K : Nat → Nat → Bool) : MonoS (NeedS L U K) := by
  rintro X Y h i v ⟨hi, hu | ⟨hk, k, hn, hx⟩⟩
  · exact ⟨hi, .inl hu⟩
  · exact ⟨hi, .inr ⟨hk, k, hn, h k v hx⟩⟩
/-- What is needed behind a point. -/
def BackS (L : List Pt) (U K : Nat → Nat → Bool) (X : Nat → Nat → Prop) (i v : Nat) : Prop := i < L.length ∧ ∃ k ∈ nextOf L i, U k v = true ∨ (K k v = true ∧ X k v)
theorem BackS.mono (L : List Pt) (U K : Nat → Nat → Bool) : MonoS (BackS L U K) := by
  rintro X Y h i v ⟨hi, k, hn, hu | ⟨hk, hx⟩⟩
  · exact ⟨hi, k, hn, .inl hu⟩
  · exact ⟨hi, k, hn, .inr ⟨hk, h k v hx⟩⟩
theorem back_need {L : List Pt} (hL : NextOk L) {U K : Nat → Nat → Bool} {i v : Nat} (hi : i < L.length) : Least (BackS L U K) i v ↔ ∃ k ∈ nextOf L i, Least (NeedS L U K) k v := by
  constructor
  · intro h
    have := h (fun i v => i < L.length → ∃ k ∈ nextOf L i, Least (NeedS L U K) k v) (by
      rintro i v ⟨hi, k, hn, hu | ⟨hk, hx⟩⟩ _
      · exact ⟨k, hn, Least.step (NeedS.mono L U K) ⟨(hL i hi).2 k hn, .inl hu⟩⟩
      · exact ⟨k, hn, Least.step (NeedS.mono L U K) ⟨(hL i hi).2 k hn, .inr ⟨hk, hx ((hL i hi).2 k hn)⟩⟩⟩)
    exact this hi
  · rintro ⟨k, hn, h⟩
    refine Least.step (BackS.mono L U K) ⟨hi, k, hn, ?_⟩
    have := h (fun i v => U i v = true ∨ (K i v = true ∧ Least (BackS L U K) i v)) (by
      rintro i v ⟨hi, hu | ⟨hk, k, hn, hx⟩⟩
      · exact .inl hu
      · exact .inr ⟨hk, Least.step (BackS.mono L U K) ⟨hi, k, hn, hx⟩⟩)
    exact this
theorem need_at {L : List Pt} (hL : NextOk L) {U K : Nat → Nat → Bool} {i v : Nat} (hi : i < L.length) : Least (NeedS L U K) i v ↔ (U i v = true ∨ (K i v = true ∧ Least (BackS L U K) i v)) := by
  constructor
  · intro h
    have := h (fun i v => U i v = true ∨ (K i v = true ∧ Least (BackS L U K) i v)) (by
      rintro i v ⟨hi, hu | ⟨hk, k, hn, hx⟩⟩
      · exact .inl hu
      · exact .inr ⟨hk, Least.step (BackS.mono L U K) ⟨hi, k, hn, hx⟩⟩)
    exact this
  · rintro (hu | ⟨hk, hx⟩)
    · exact Least.step (NeedS.mono L U K) ⟨hi, .inl hu⟩
    · exact Least.step (NeedS.mono L U K) ⟨hi, .inr ⟨hk, (back_need hL hi).1 hx⟩⟩

/-! ### Rounds over all points from the last one on: a row is made anew -/

/-- The row that a point gets. -/
def needRow (L : List Pt) (U K : Nat → Nat → Bool) (F : Nat → Nat → Bool) (i v : Nat) : Bool := U i v || (K i v && (nextOf L i).any fun k => F k v)
theorem needRow_iff {L : List Pt} {U K F : Nat → Nat → Bool} {i v : Nat} (hi : i < L.length) : needRow L U K F i v = true ↔ NeedS L U K (fun i v => F i v = true) i v := by
  unfold needRow NeedS
  rw [Bool.or_eq_true, Bool.and_eq_true, List.any_eq_true]
  exact ⟨fun h => ⟨hi, h⟩, fun h => h.2⟩
def updF (F : Nat → Nat → Bool) (i : Nat) (R : Nat → Bool) : Nat → Nat → Bool := fun k v => if k = i then R v else F k v
/-- All that is in the table is needed, and has its reason in the table. -/
def NdOk (L : List Pt) (U K : Nat → Nat → Bool) (F : Nat → Nat → Bool) : Prop := (∀ i v, F i v = true → Least (NeedS L U K) i v) ∧ ∀ i v, F i v = true → needRow L U K F i v = true
/-- A round under way: the points from a on have been met. -/
def NdR (B : List (Nat × Nat)) (L : List Pt) (U K : Nat → Nat → Bool) (F0 F : Nat → Nat → Bool) (c : Bool) (a : Nat) : Prop :=
  NdOk L U K F ∧ (∀ i v, F0 i v = true → F i v = true) ∧ (c = true → cntG B F0 < cntG B F) ∧ (c = false → F = F0 ∧ ∀ i, a ≤ i → i < L.length → ∀ v, needRow L U K F i v = true → F i v = true)
section

variable {B : List (Nat × Nat)} {L : List Pt} {U K : Nat → Nat → Bool} {F0 F : Nat → Nat → Bool} {c : Bool} {a : Nat} {R : Nat → Bool}

theorem needRow_mono {F G : Nat → Nat → Bool} (h : ∀ i v, F i v = true → G i v = true) (i v : Nat) (hr : needRow L U K F i v = true) : needRow L U K G i v = true := by
  unfold needRow at *
  rw [Bool.or_eq_true, Bool.and_eq_true, List.any_eq_true] at *
  rcases hr with hr | ⟨hk, k, hn, hx⟩
  · exact .inl hr
  · exact .inr ⟨hk, k, hn, h k v hx⟩
theorem NdR.start (h : NdOk L U K F) : NdR B L U K F F false L.length := ⟨h, fun _ _ h => h, (fun h => by cases h), fun _ => ⟨rfl, fun i h1 h2 => absurd h1 (by omega)⟩⟩
theorem NdR.same (h : NdR B L U K F0 F c (a + 1)) (hs : ∀ v, needRow L U K F a v = true → F a v = true) : NdR B L U K F0 F c a := by
  obtain ⟨h1, h2, h3, h4⟩ := h
  refine ⟨h1, h2, h3, fun hc => ⟨(h4 hc).1, fun i hi hl v => ?_⟩⟩
  by_cases e : i = a
  · subst e; exact hs v
  · exact (h4 hc).2 i (by omega) hl v
theorem NdR.change (h : NdR B L U K F0 F c (a + 1)) (ha : a < L.length) (hR : ∀ v, R v = needRow L U K F a v) {v : Nat} (hB : (a, v) ∈ B) (hne : R v ≠ F a v) : NdR B L U K F0 (updF F a R) true a := by
  obtain ⟨⟨h1, h5⟩, h2, h3, h4⟩ := h
  have hge : ∀ i v, F i v = true → updF F a R i v = true := fun i v hv => by
    unfold updF; split
    · rename_i e; subst e; rw [hR]; exact h5 i v hv
    · exact hv
  refine ⟨⟨fun i v hv => ?_, fun i v hv => ?_⟩, fun i v hv => hge i v (h2 i v hv), fun _ => ?_, fun h => by cases h⟩
  · unfold updF at hv; split at hv
    · rename_i e; subst e
      rw [hR] at hv
      exact Least.step (NeedS.mono L U K) (NeedS.mono L U K _ _ (fun i v hv => h1 i v hv) _ _ ((needRow_iff ha).1 hv))
    · exact h1 i v hv
  · unfold updF at hv; split at hv
    · rename_i e; subst e
      rw [hR] at hv
      exact needRow_mono hge _ _ hv
    · exact needRow_mono hge _ _ (h5 i v hv)
  · have hf : F a v = false := by
      cases hf : F a v with
      | false => rfl
      | true => exact absurd (by rw [hR, h5 a v hf, hf]) hne
    have hr : R v = true := by
      cases hr : R v with
      | true => rfl
      | false => exact absurd (by rw [hr, hf]) hne
    exact Nat.lt_of_le_of_lt (cntG_mono h2) (cntG_lt hge hB hf (by unfold updF; rw [if_pos rfl]; exact hr))
/-- Behind a round. -/
def NdA (L : List Pt) (U K : Nat → Nat → Bool) (F : Nat → Nat → Bool) (c : Bool) : Prop := NdOk L U K F ∧ (c = false → ∀ i v, F i v = true ↔ Least (NeedS L U K) i v)
theorem NdA.start (L : List Pt) (U K : Nat → Nat → Bool) : NdA L U K (fun _ _ => false) true := ⟨⟨(fun i v h => by cases h), (fun i v h => by cases h)⟩, (fun h => by cases h)⟩
theorem NdR.done (h : NdR B L U K F0 F c 0) : NdA L U K F c := by
  obtain ⟨h1, h2, h3, h4⟩ := h
  refine ⟨h1, fun hc => Least.done h1.1 ?_⟩
  rintro i v ⟨hi, hv⟩
  exact (h4 hc).2 i (by omega) hi v ((needRow_iff hi).2 ⟨hi, hv⟩)
theorem NdR.left (h : NdR B L U K F0 F c a) : leftG B F c < leftG B F0 true := by
  obtain ⟨h1, h2, h3, h4⟩ := h
  have := cntG_le B F
  unfold leftG
  cases c with
  | true => have := h3 rfl; simp; omega
  | false => rw [(h4 rfl).1]; simp
end

/-! ### Rounds of the reference: bit by bit -/

/-- The table F is sound, and has grown out of F0; Q: what has been met since, if nothing has changed. -/
def BkR (B : List (Nat × Nat)) (L : List Pt) (U K : Nat → Nat → Bool) (F0 F : Nat → Nat → Bool) (c : Bool) (Q : Nat → Nat → Nat → Prop) : Prop :=
  (∀ i v, F i v = true → Least (BackS L U K) i v) ∧ (∀ i v, F0 i v = true → F i v = true) ∧ (c = true → cntG B F0 < cntG B F) ∧
  (c = false → F = F0 ∧ ∀ i k v, Q i k v → (U k v = true ∨ (K k v = true ∧ F k v = true)) → F i v = true)
def setT (F : Nat → Nat → Bool) (i v : Nat) : Nat → Nat → Bool := fun k u => if k = i ∧ u = v then true else F k u
section

variable {B : List (Nat × Nat)} {L : List Pt} {U K : Nat → Nat → Bool} {F0 F : Nat → Nat → Bool} {c : Bool} {Q Q' : Nat → Nat → Nat → Prop}

theorem BkR.start (h : ∀ i v, F i v = true → Least (BackS L U K) i v) : BkR B L U K F F false (fun _ _ _ => False) := ⟨h, fun _ _ h => h, (fun h => by cases h), fun _ => ⟨rfl, fun _ _ _ h => h.elim⟩⟩
theorem BkR.mono (h : BkR B L U K F0 F c Q) (hQ : ∀ i k v, Q' i k v → Q i k v) : BkR B L U K F0 F c Q' :=
  ⟨h.1, h.2.1, h.2.2.1, fun hc => ⟨(h.2.2.2 hc).1, fun i k v hq => (h.2.2.2 hc).2 i k v (hQ i k v hq)⟩⟩
theorem BkR.same (h : BkR B L U K F0 F c Q) {i k v : Nat} (hs : (U k v = true ∨ (K k v = true ∧ F k v = true)) → F i v = true) (hQ : ∀ i' k' v', Q' i' k' v' → Q i' k' v' ∨ (i' = i ∧ k' = k ∧ v' = v)) : BkR B L U K F0 F c Q' :=
  ⟨h.1, h.2.1, h.2.2.1, fun hc => ⟨(h.2.2.2 hc).1, fun i' k' v' hq => by
    rcases hQ i' k' v' hq with hq | ⟨rfl, rfl, rfl⟩
    · exact (h.2.2.2 hc).2 i' k' v' hq
    · exact hs⟩⟩
theorem BkR.change (h : BkR B L U K F0 F c Q) {i k v : Nat} (hi : i < L.length) (hk : k ∈ nextOf L i) (hn : U k v = true ∨ (K k v = true ∧ F k v = true)) (hB : (i, v) ∈ B) (hf : F i v = false) : BkR B L U K F0 (setT F i v) true Q' := by
  obtain ⟨h1, h2, h3, h4⟩ := h
  have hge : ∀ k u, F k u = true → setT F i v k u = true := fun k u hu => by unfold setT; split <;> simp [hu]
  refine ⟨fun j u hu => ?_, fun j u hu => hge j u (h2 j u hu), fun _ => Nat.lt_of_le_of_lt (cntG_mono h2) (cntG_lt hge hB hf (by unfold setT; simp)), fun h => by cases h⟩
  unfold setT at hu; split at hu
  · rename_i e
    obtain ⟨rfl, rfl⟩ := e
    exact Least.step (BackS.mono L U K) ⟨hi, k, hk, hn.imp id fun hn => ⟨hn.1, h1 k _ hn.2⟩⟩
  · exact h1 j u hu
theorem BkR.left (h : BkR B L U K F0 F c Q) : leftG B F c < leftG B F0 true := by
  obtain ⟨h1, h2, h3, h4⟩ := h
  have := cntG_le B F
  unfold leftG
  cases c with
  | true => have := h3 rfl; simp; omega
  | false => rw [(h4 rfl).1]; simp
end

end Go.Proofs.Ytdnhinkjmjpnnaa

/- Plain laws: the least table that is closed under a step, and what rounds make of a table. -/
/- Sets of variables as words: walks of which, used, taken, setBit, bits, after in the program. -/
/- Plain laws: what the simple points of a valid program say of their variables. -/
/- Plain laws: rounds over all points whose rows are added in parts; rows of words for each variable. -/
import Derived.Test.YtdnhinkjmjpnnaaZ7

import Derived.Test.YtdnhinkjmjpnnaaF1

import Derived.Test.YtdnhinkjmjpnnaaF5

import Derived.Test.YtdnhinkjmjpnnaaFA

import Derived.Test.YtdnhinkjmjpnnaaU2

import Derived.Test.YtdnhinkjmjpnnaaN1

import Derived.Test.YtdnhinkjmjpnnaaN7

import Derived.Test.YtdnhinkjmjpnnaaZ3

import Derived.Test.YtdnhinkjmjpnnaaF2

import Derived.Test.YtdnhinkjmjpnnaaY3

namespace Go.Proofs.Ytdnhinkjmjpnnaa

open Go.RowKit

/-! ### Least closed tables -/

section

variable {β : Type}

/-- What is in each table that is closed under the step S. -/
def Least (S : (Nat → β → Prop) → Nat → β → Prop) (i : Nat) (b : β) : Prop := ∀ X : Nat → β → Prop, (∀ i b, S X i b → X i b) → X i b
def MonoS (S : (Nat → β → Prop) → Nat → β → Prop) : Prop := ∀ X Y : Nat → β → Prop, (∀ i b, X i b → Y i b) → ∀ i b, S X i b → S Y i b
theorem Least.step {S : (Nat → β → Prop) → Nat → β → Prop} (hm : MonoS S) {i : Nat} {b : β} (h : S (Least S) i b) : Least S i b :=
  fun X hX => hX _ _ (hm _ _ (fun _ _ hl => hl X hX) _ _ h)
theorem Least.done {S : (Nat → β → Prop) → Nat → β → Prop} {F : Nat → β → Bool} (hs : ∀ i b, F i b = true → Least S i b) (hc : ∀ i b, S (fun i b => F i b = true) i b → F i b = true) (i : Nat) (b : β) : F i b = true ↔ Least S i b :=
  ⟨hs i b, fun h => h _ hc⟩
/-- The same tables, bit by bit. -/
theorem Least.congr {S T : (Nat → β → Prop) → Nat → β → Prop} (h : ∀ X i b, S X i b ↔ T X i b) (i : Nat) (b : β) : Least S i b ↔ Least T i b :=
  ⟨fun hl X hX => hl X fun i b hs => hX i b ((h X i b).1 hs), fun hl X hX => hl X fun i b hs => hX i b ((h X i b).2 hs)⟩

/-! ### Counting what is in a table -/

def cntG (B : List (Nat × β)) (F : Nat → β → Bool) : Nat := B.countP fun q => F q.1 q.2
theorem cntG_le (B : List (Nat × β)) (F : Nat → β → Bool) : cntG B F ≤ B.length := List.countP_le_length
theorem countT_lt {α : Type} {p q : α → Bool} : ∀ {l : List α}, (∀ a ∈ l, p a = true → q a = true) → (∃ a ∈ l, p a = false ∧ q a = true) → l.countP p < l.countP q
  | [], _, h => by obtain ⟨a, ha, _⟩ := h; simp at ha
  | x :: r, h, hx => by
    have hle : r.countP p ≤ r.countP q := List.countP_mono_left fun a ha => h a (by simp [ha])
    obtain ⟨a, ha, h1, h2⟩ := hx
    rcases List.mem_cons.1 ha with rfl | ha
    · rw [List.countP_cons, List.countP_cons, h1, h2]; simp; omega
    · have ih := countT_lt (l := r) (fun a ha => h a (by simp [ha])) ⟨a, ha, h1, h2⟩
      rw [List.countP_cons, List.countP_cons]
      cases hp : p x with
      | false => simp; omega
      | true => rw [h x (by simp) hp]; simp; omega
theorem cntG_lt {B : List (Nat × β)} {F G : Nat → β → Bool} (h : ∀ i b, F i b = true → G i b = true) {i : Nat} {b : β} (hB : (i, b) ∈ B) (hF : F i b = false) (hG : G i b = true) : cntG B F < cntG B G :=
  countT_lt (fun q _ => h q.1 q.2) ⟨(i, b), hB, hF, hG⟩
theorem cntG_mono {B : List (Nat × β)} {F G : Nat → β → Bool} (h : ∀ i b, F i b = true → G i b = true) : cntG B F ≤ cntG B G :=
  List.countP_mono_left fun q _ => h q.1 q.2
/-- How much can still change. -/
def leftG (B : List (Nat × β)) (F : Nat → β → Bool) (c : Bool) : Nat := 2 * (B.length - cntG B F) + (if c = true then 1 else 0)

/-! ### Rounds over all points: what is known behind a point is added to what is known before the next ones -/

/-- What is known before a point: I is known at the beginning, A tells what is known behind a point. -/
def FwS (L : List Pt) (I : β → Prop) (A : Nat → (β → Prop) → β → Prop) (X : Nat → β → Prop) (k : Nat) (b : β) : Prop :=
  (k = 0 ∧ I b) ∨ ∃ i, i < L.length ∧ k ∈ nextOf L i ∧ A i (X i) b
def MonoA (A : Nat → (β → Prop) → β → Prop) : Prop := ∀ i (Y Z : β → Prop), (∀ b, Y b → Z b) → ∀ b, A i Y b → A i Z b
theorem FwS.mono {L : List Pt} {I : β → Prop} {A : Nat → (β → Prop) → β → Prop} (hA : MonoA A) : MonoS (FwS L I A) := by
  rintro X Y h k b (hs | ⟨i, hi, hk, ha⟩)
  · exact .inl hs
  · exact .inr ⟨i, hi, hk, hA i _ _ (h i) b ha⟩
/-- A row is added to a table's row. -/
def mrg (F : Nat → β → Bool) (k : Nat) (R : β → Bool) : Nat → β → Bool := fun i b => if i = k then F i b || R b else F i b
theorem mrg_ge (F : Nat → β → Bool) (k : Nat) (R : β → Bool) (i : Nat) (b : β) (h : F i b = true) : mrg F k R i b = true := by
  unfold mrg; split
  · rw [h]; rfl
  · exact h
theorem mrg_at (F : Nat → β → Bool) (k : Nat) (R : β → Bool) (b : β) (h : R b = true) : mrg F k R k b = true := by
  unfold mrg; rw [if_pos rfl, h, Bool.or_true]
theorem mrg_out {F : Nat → β → Bool} {k : Nat} {R : β → Bool} {i : Nat} {b : β} (h : mrg F k R i b = true) : F i b = true ∨ (i = k ∧ R b = true) := by
  unfold mrg at h; split at h
  · rename_i e
    rw [Bool.or_eq_true] at h
    exact h.imp id fun h => ⟨e, h⟩
  · exact .inl h
/-- All that is in the table is known, and what is known at the beginning is in it. -/
def FwOk (L : List Pt) (I : β → Prop) (A : Nat → (β → Prop) → β → Prop) (F : Nat → β → Bool) : Prop := (∀ i b, F i b = true → Least (FwS L I A) i b) ∧ ∀ b, I b → F 0 b = true
/-- A round under way: from the table F0 on, the points below a have been met; c says whether something has changed. -/
def FwR (B : List (Nat × β)) (L : List Pt) (I : β → Prop) (A : Nat → (β → Prop) → β → Prop) (F0 F : Nat → β → Bool) (c : Bool) (a : Nat) : Prop :=
  FwOk L I A F ∧ (∀ i b, F0 i b = true → F i b = true) ∧ (c = true → cntG B F0 < cntG B F) ∧
  (c = false → F = F0 ∧ ∀ i, i < a → ∀ k ∈ nextOf L i, ∀ b, A i (fun b => F i b = true) b → F k b = true)
/-- At the point a, whose row is R: it has been added to the first j of what comes next. -/
def FwI (B : List (Nat × β)) (L : List Pt) (I : β → Prop) (A : Nat → (β → Prop) → β → Prop) (F0 F : Nat → β → Bool) (c : Bool) (a : Nat) (R : β → Bool) (j : Nat) : Prop :=
  FwOk L I A F ∧ (∀ i b, F0 i b = true → F i b = true) ∧ (c = true → cntG B F0 < cntG B F) ∧ (∀ b, R b = true → A a (Least (FwS L I A) a) b) ∧
  (c = false → F = F0 ∧ (∀ i, i < a → ∀ k ∈ nextOf L i, ∀ b, A i (fun b => F i b = true) b → F k b = true) ∧ (∀ b, A a (fun b => F a b = true) b → R b = true) ∧
    ∀ j' (h : j' < (nextOf L a).length), j' < j → ∀ b, R b = true → F (nextOf L a)[j'] b = true)
variable {B : List (Nat × β)} {L : List Pt} {I : β → Prop} {A : Nat → (β → Prop) → β → Prop} {F0 F : Nat → β → Bool} {c : Bool} {a j : Nat} {R : β → Bool}

theorem FwR.start (h : FwOk L I A F) : FwR B L I A F F false 0 := ⟨h, fun _ _ h => h, (fun h => by cases h), fun _ => ⟨rfl, fun i hi => absurd hi (by omega)⟩⟩
theorem FwR.enter (hA : MonoA A) (h : FwR B L I A F0 F c a) (hR : ∀ b, R b = true ↔ A a (fun b => F a b = true) b) : FwI B L I A F0 F c a R 0 := by
  obtain ⟨h1, h2, h3, h4⟩ := h
  exact ⟨h1, h2, h3, fun b hb => hA a _ _ (fun b hb => h1.1 a b hb) b ((hR b).1 hb), fun hc => ⟨(h4 hc).1, (h4 hc).2, fun b => (hR b).2, fun j' _ hj => absurd hj (by omega)⟩⟩
theorem FwI.same (h : FwI B L I A F0 F c a R j) (hj : j < (nextOf L a).length) (hs : ∀ b, R b = true → F (nextOf L a)[j] b = true) : FwI B L I A F0 F c a R (j + 1) := by
  obtain ⟨h1, h2, h3, h4, h5⟩ := h
  refine ⟨h1, h2, h3, h4, fun hc => ?_⟩
  obtain ⟨e1, e2, e3, e4⟩ := h5 hc
  refine ⟨e1, e2, e3, fun j' hj' hlt => ?_⟩
  by_cases e : j' = j
  · subst e; exact hs
  · exact e4 j' hj' (by omega)
theorem FwOk.mrg (hA : MonoA A) (ha : a < L.length) (h : FwOk L I A F) (hR : ∀ b, R b = true → A a (Least (FwS L I A) a) b) {k : Nat} (hk : k ∈ nextOf L a) : FwOk L I A (mrg F k R) := by
  refine ⟨fun i b hb => ?_, fun b hb => mrg_ge _ _ _ _ _ (h.2 b hb)⟩
  rcases mrg_out hb with h1 | ⟨rfl, h1⟩
  · exact h.1 i b h1
  · exact Least.step (FwS.mono hA) (.inr ⟨a, ha, hk, hR b h1⟩)
theorem FwI.change (hA : MonoA A) (ha : a < L.length) (h : FwI B L I A F0 F c a R j) (hj : j < (nextOf L a).length) {b : β} (hB : ((nextOf L a)[j], b) ∈ B) (hb : R b = true) (hn : F (nextOf L a)[j] b = false) : FwI B L I A F0 (mrg F (nextOf L a)[j] R) true a R (j + 1) := by
  obtain ⟨h1, h2, h3, h4, h5⟩ := h
  refine ⟨h1.mrg hA ha h4 (List.getElem_mem _), fun i b hb => mrg_ge _ _ _ _ _ (h2 i b hb), fun _ => ?_, h4, fun h => by cases h⟩
  exact Nat.lt_of_le_of_lt (cntG_mono h2) (cntG_lt (fun i b hb => mrg_ge _ _ _ _ _ hb) hB hn (mrg_at _ _ _ _ hb))
theorem FwI.exit (h : FwI B L I A F0 F c a R j) (hj : (nextOf L a).length ≤ j) : FwR B L I A F0 F c (a + 1) := by
  obtain ⟨h1, h2, h3, h4, h5⟩ := h
  refine ⟨h1, h2, h3, fun hc => ?_⟩
  obtain ⟨e1, e2, e3, e4⟩ := h5 hc
  refine ⟨e1, fun i hi k hk b hb => ?_⟩
  by_cases e : i = a
  · subst e
    obtain ⟨j', hj', rfl⟩ := List.getElem_of_mem hk
    exact e4 j' hj' (by omega) b (e3 b hb)
  · exact e2 i (by omega) k hk b hb
/-- Behind a round. -/
def FwA (L : List Pt) (I : β → Prop) (A : Nat → (β → Prop) → β → Prop) (F : Nat → β → Bool) (c : Bool) : Prop := FwOk L I A F ∧ (c = false → ∀ i b, F i b = true ↔ Least (FwS L I A) i b)
theorem FwA.start (h : FwOk L I A F) : FwA L I A F true := ⟨h, (fun h => by cases h)⟩
theorem FwR.done (h : FwR B L I A F0 F c a) (ha : L.length ≤ a) : FwA L I A F c := by
  obtain ⟨h1, h2, h3, h4⟩ := h
  refine ⟨h1, fun hc => Least.done h1.1 ?_⟩
  rintro k b (⟨rfl, hb⟩ | ⟨i, hi, hk, hb⟩)
  · exact h1.2 b hb
  · exact (h4 hc).2 i (by omega) k hk b hb
theorem FwR.left (h : FwR B L I A F0 F c a) : leftG B F c < leftG B F0 true := by
  obtain ⟨h1, h2, h3, h4⟩ := h
  have := cntG_le B F
  unfold leftG
  cases c with
  | true => have := h3 rfl; simp; omega
  | false => rw [(h4 rfl).1]; simp
end

/-! ### Backwards: what is needed from a point on -/

/-- U: what a point uses, K: what it does not set. -/
def NeedS (L : List Pt) (U K : Nat → Nat → Bool) (X : Nat → Nat → Prop) (i v : Nat) : Prop := i < L.length ∧ (U i v = true ∨ (K i v = true ∧ ∃ k ∈ nextOf L i, X k v))
theorem NeedS.mono (L : List Pt) (U K : Nat → Nat → Bool) : MonoS (NeedS L U K) := by
  rintro X Y h i v ⟨hi, hu | ⟨hk, k, hn, hx⟩⟩
  · exact ⟨hi, .inl hu⟩
  · exact ⟨hi, .inr ⟨hk, k, hn, h k v hx⟩⟩
/-- What is needed behind a point. -/
def BackS (L : List Pt) (U K : Nat → Nat → Bool) (X : Nat → Nat → Prop) (i v : Nat) : Prop := i < L.length ∧ ∃ k ∈ nextOf L i, U k v = true ∨ (K k v = true ∧ X k v)
theorem BackS.mono (L : List Pt) (U K : Nat → Nat → Bool) : MonoS (BackS L U K) := by
  rintro X Y h i v ⟨hi, k, hn, hu | ⟨hk, hx⟩⟩
  · exact ⟨hi, k, hn, .inl hu⟩
  · exact ⟨hi, k, hn, .inr ⟨hk, h k v hx⟩⟩
theorem back_need {L : List Pt} (hL : NextOk L) {U K : Nat → Nat → Bool} {i v : Nat} (hi : i < L.length) : Least (BackS L U K) i v ↔ ∃ k ∈ nextOf L i, Least (NeedS L U K) k v := by
  constructor
  · intro h
    have := h (fun i v => i < L.length → ∃ k ∈ nextOf L i, Least (NeedS L U K) k v) (by
      rintro i v ⟨hi, k, hn, hu | ⟨hk, hx⟩⟩ _
      · exact ⟨k, hn, Least.step (NeedS.mono L U K) ⟨(hL i hi).2 k hn, .inl hu⟩⟩
      · exact ⟨k, hn, Least.step (NeedS.mono L U K) ⟨(hL i hi).2 k hn, .inr ⟨hk, hx ((hL i hi).2 k hn)⟩⟩⟩)
    exact this hi
  · rintro ⟨k, hn, h⟩
    refine Least.step (BackS.mono L U K) ⟨hi, k, hn, ?_⟩
    have := h (fun i v => U i v = true ∨ (K i v = true ∧ Least (BackS L U K) i v)) (by
      rintro i v ⟨hi, hu | ⟨hk, k, hn, hx⟩⟩
      · exact .inl hu
      · exact .inr ⟨hk, Least.step (BackS.mono L U K) ⟨hi, k, hn, hx⟩⟩)
    exact this
theorem need_at {L : List Pt} (hL : NextOk L) {U K : Nat → Nat → Bool} {i v : Nat} (hi : i < L.length) : Least (NeedS L U K) i v ↔ (U i v = true ∨ (K i v = true ∧ Least (BackS L U K) i v)) := by
  constructor
  · intro h
    have := h (fun i v => U i v = true ∨ (K i v = true ∧ Least (BackS L U K) i v)) (by
      rintro i v ⟨hi, hu | ⟨hk, k, hn, hx⟩⟩
      · exact .inl hu
      · exact .inr ⟨hk, Least.step (BackS.mono L U K) ⟨hi, k, hn, hx⟩⟩)
    exact this
  · rintro (hu | ⟨hk, hx⟩)
    · exact Least.step (NeedS.mono L U K) ⟨hi, .inl hu⟩
    · exact Least.step (NeedS.mono L U K) ⟨hi, .inr ⟨hk, (back_need hL hi).1 hx⟩⟩

/-! ### Rounds over all points from the last one on: a row is made anew -/

/-- The row that a point gets. -/
def needRow (L : List Pt) (U K : Nat → Nat → Bool) (F : Nat → Nat → Bool) (i v : Nat) : Bool := U i v || (K i v && (nextOf L i).any fun k => F k v)
theorem needRow_iff {L : List Pt} {U K F : Nat → Nat → Bool} {i v : Nat} (hi : i < L.length) : needRow L U K F i v = true ↔ NeedS L U K (fun i v => F i v = true) i v := by
  unfold needRow NeedS
  rw [Bool.or_eq_true, Bool.and_eq_true, List.any_eq_true]
  exact ⟨fun h => ⟨hi, h⟩, fun h => h.2⟩
def updF (F : Nat → Nat → Bool) (i : Nat) (R : Nat → Bool) : Nat → Nat → Bool := fun k v => if k = i then R v else F k v
/-- All that is in the table is needed, and has its reason in the table. -/
def NdOk (L : List Pt) (U K : Nat → Nat → Bool) (F : Nat → Nat → Bool) : Prop := (∀ i v, F i v = true → Least (NeedS L U K) i v) ∧ ∀ i v, F i v = true → needRow L U K F i v = true
/-- A round under way: the points from a on have been met. -/
def NdR (B : List (Nat × Nat)) (L : List Pt) (U K : Nat → Nat → Bool) (F0 F : Nat → Nat → Bool) (c : Bool) (a : Nat) : Prop :=
  NdOk L U K F ∧ (∀ i v, F0 i v = true → F i v = true) ∧ (c = true → cntG B F0 < cntG B F) ∧ (c = false → F = F0 ∧ ∀ i, a ≤ i → i < L.length → ∀ v, needRow L U K F i v = true → F i v = true)
section

variable {B : List (Nat × Nat)} {L : List Pt} {U K : Nat → Nat → Bool} {F0 F : Nat → Nat → Bool} {c : Bool} {a : Nat} {R : Nat → Bool}

theorem needRow_mono {F G : Nat → Nat → Bool} (h : ∀ i v, F i v = true → G i v = true) (i v : Nat) (hr : needRow L U K F i v = true) : needRow L U K G i v = true := by
  unfold needRow at *
  rw [Bool.or_eq_true, Bool.and_eq_true, List.any_eq_true] at *
  rcases hr with hr | ⟨hk, k, hn, hx⟩
  · exact .inl hr
  · exact .inr ⟨hk, k, hn, h k v hx⟩
theorem NdR.start (h : NdOk L U K F) : NdR B L U K F F false L.length := ⟨h, fun _ _ h => h, (fun h => by cases h), fun _ => ⟨rfl, fun i h1 h2 => absurd h1 (by omega)⟩⟩
theorem NdR.same (h : NdR B L U K F0 F c (a + 1)) (hs : ∀ v, needRow L U K F a v = true → F a v = true) : NdR B L U K F0 F c a := by
  obtain ⟨h1, h2, h3, h4⟩ := h
  refine ⟨h1, h2, h3, fun hc => ⟨(h4 hc).1, fun i hi hl v => ?_⟩⟩
  by_cases e : i = a
  · subst e; exact hs v
  · exact (h4 hc).2 i (by omega) hl v
theorem NdR.change (h : NdR B L U K F0 F c (a + 1)) (ha : a < L.length) (hR : ∀ v, R v = needRow L U K F a v) {v : Nat} (hB : (a, v) ∈ B) (hne : R v ≠ F a v) : NdR B L U K F0 (updF F a R) true a := by
  obtain ⟨⟨h1, h5⟩, h2, h3, h4⟩ := h
  have hge : ∀ i v, F i v = true → updF F a R i v = true := fun i v hv => by
    unfold updF; split
    · rename_i e; subst e; rw [hR]; exact h5 i v hv
    · exact hv
  refine ⟨⟨fun i v hv => ?_, fun i v hv => ?_⟩, fun i v hv => hge i v (h2 i v hv), fun _ => ?_, fun h => by cases h⟩
  · unfold updF at hv; split at hv
    · rename_i e; subst e
      rw [hR] at hv
      exact Least.step (NeedS.mono L U K) (NeedS.mono L U K _ _ (fun i v hv => h1 i v hv) _ _ ((needRow_iff ha).1 hv))
    · exact h1 i v hv
  · unfold updF at hv; split at hv
    · rename_i e; subst e
      rw [hR] at hv
      exact needRow_mono hge _ _ hv
    · exact needRow_mono hge _ _ (h5 i v hv)
  · have hf : F a v = false := by
      cases hf : F a v with
      | false => rfl
      | true => exact absurd (by rw [hR, h5 a v hf, hf]) hne
    have hr : R v = true := by
      cases hr : R v with
      | true => rfl
      | false => exact absurd (by rw [hr, hf]) hne
    exact Nat.lt_of_le_of_lt (cntG_mono h2) (cntG_lt hge hB hf (by unfold updF; rw [if_pos rfl]; exact hr))
/-- Behind a round. -/
def NdA (L : List Pt) (U K : Nat → Nat → Bool) (F : Nat → Nat → Bool) (c : Bool) : Prop := NdOk L U K F ∧ (c = false → ∀ i v, F i v = true ↔ Least (NeedS L U K) i v)
theorem NdA.start (L : List Pt) (U K : Nat → Nat → Bool) : NdA L U K (fun _ _ => false) true := ⟨⟨(fun i v h => by cases h), (fun i v h => by cases h)⟩, (fun h => by cases h)⟩
theorem NdR.done (h : NdR B L U K F0 F c 0) : NdA L U K F c := by
  obtain ⟨h1, h2, h3, h4⟩ := h
  refine ⟨h1, fun hc => Least.done h1.1 ?_⟩
  rintro i v ⟨hi, hv⟩
  exact (h4 hc).2 i (by omega) hi v ((needRow_iff hi).2 ⟨hi, hv⟩)
theorem NdR.left (h : NdR B L U K F0 F c a) : leftG B F c < leftG B F0 true := by
  obtain ⟨h1, h2, h3, h4⟩ := h
  have := cntG_le B F
  unfold leftG
  cases c with
  | true => have := h3 rfl; simp; omega
  | false => rw [(h4 rfl).1]; simp
end

/-! ### Rounds of the reference: bit by bit -/

/-- The table F is sound, and has grown out of F0; Q: what has been met since, if nothing has changed. -/
def BkR (B : List (Nat × Nat)) (L : List Pt) (U K : Nat → Nat → Bool) (F0 F : Nat → Nat → Bool) (c : Bool) (Q : Nat → Nat → Nat → Prop) : Prop :=
  (∀ i v, F i v = true → Least (BackS L U K) i v) ∧ (∀ i v, F0 i v = true → F i v = true) ∧ (c = true → cntG B F0 < cntG B F) ∧
  (c = false → F = F0 ∧ ∀ i k v, Q i k v → (U k v = true ∨ (K k v = true ∧ F k v = true)) → F i v = true)
def setT (F : Nat → Nat → Bool) (i v : Nat) : Nat → Nat → Bool := fun k u => if k = i ∧ u = v then true else F k u
section

variable {B : List (Nat × Nat)} {L : List Pt} {U K : Nat → Nat → Bool} {F0 F : Nat → Nat → Bool} {c : Bool} {Q Q' : Nat → Nat → Nat → Prop}

theorem BkR.start (h : ∀ i v, F i v = true → Least (BackS L U K) i v) : BkR B L U K F F false (fun _ _ _ => False) := ⟨h, fun _ _ h => h, (fun h => by cases h), fun _ => ⟨rfl, fun _ _ _ h => h.elim⟩⟩
theorem BkR.mono (h : BkR B L U K F0 F c Q) (hQ : ∀ i k v, Q' i k v → Q i k v) : BkR B L U K F0 F c Q' :=
  ⟨h.1, h.2.1, h.2.2.1, fun hc => ⟨(h.2.2.2 hc).1, fun i k v hq => (h.2.2.2 hc).2 i k v (hQ i k v hq)⟩⟩
theorem BkR.same (h : BkR B L U K F0 F c Q) {i k v : Nat} (hs : (U k v = true ∨ (K k v = true ∧ F k v = true)) → F i v = true) (hQ : ∀ i' k' v', Q' i' k' v' → Q i' k' v' ∨ (i' = i ∧ k' = k ∧ v' = v)) : BkR B L U K F0 F c Q' :=
  ⟨h.1, h.2.1, h.2.2.1, fun hc => ⟨(h.2.2.2 hc).1, fun i' k' v' hq => by
    rcases hQ i' k' v' hq with hq | ⟨rfl, rfl, rfl⟩
    · exact (h.2.2.2 hc).2 i' k' v' hq
    · exact hs⟩⟩
theorem BkR.change (h : BkR B L U K F0 F c Q) {i k v : Nat} (hi : i < L.length) (hk : k ∈ nextOf L i) (hn : U k v = true ∨ (K k v = true ∧ F k v = true)) (hB : (i, v) ∈ B) (hf : F i v = false) : BkR B L U K F0 (setT F i v) true Q' := by
  obtain ⟨h1, h2, h3, h4⟩ := h
  have hge : ∀ k u, F k u = true → setT F i v k u = true := fun k u hu => by unfold setT; split <;> simp [hu]
  refine ⟨fun j u hu => ?_, fun j u hu => hge j u (h2 j u hu), fun _ => Nat.lt_of_le_of_lt (cntG_mono h2) (cntG_lt hge hB hf (by unfold setT; simp)), fun h => by cases h⟩
  unfold setT at hu; split at hu
  · rename_i e
    obtain ⟨rfl, rfl⟩ := e
    exact Least.step (BackS.mono L U K) ⟨hi, k, hk, hn.imp id fun hn => ⟨hn.1, h1 k _ hn.2⟩⟩
  · exact h1 j u hu
theorem BkR.left (h : BkR B L U K F0 F c Q) : leftG B F c < leftG B F0 true := by
  obtain ⟨h1, h2, h3, h4⟩ := h
  have := cntG_le B F
  unfold leftG
  cases c with
  | true => have := h3 rfl; simp; omega
  | false => rw [(h4 rfl).1]; simp
end

end Go.Proofs.Ytdnhinkjmjpnnaa

namespace Go.Proofs.Ytdnhinkjmjpnnaa

open Go.RowKit

/-- A variable is used in one of the ways U. -/
def useB (T : List Int) (op x y : Int) (U : List Int) (v : Nat) : Bool := decide (v < T.length) && decide (useK (T.getD v 0) op x y v ∈ U)
theorem useB_at {T : List Int} {op x y : Int} {U : List Int} {v : Nat} (h : v < T.length) : useB T op x y U v = decide (useK T[v] op x y v ∈ U) := by
  unfold useB; simp [h, List.getD]
theorem useB_out {T : List Int} {op x y : Int} {U : List Int} {v : Nat} (h : T.length ≤ v) : useB T op x y U v = false := by
  unfold useB; rw [decide_eq_false (by omega)]; rfl
/-- A word with the bits f. -/
def GotW (f : Nat → Bool) (w : World) (e : Ending) (w' : World) : Prop := ∃ W : Nat, e = .returned (.int .i64 W) ∧ (∀ v, W.testBit v = f v) ∧ W < 2 ^ 6 ∧ Gr w w' none
theorem word_lt {W n : Nat} {f : Nat → Bool} (h : ∀ v, W.testBit v = f v) (hf : ∀ v, n ≤ v → f v = false) : W < 2 ^ n :=
  Nat.lt_pow_two_of_testBit W fun i hi => by rw [h]; exact hf i hi
theorem i64_pow {k : Nat} (hk : k < 63) : IntKind.i64.wrap ((2 : Int) ^ k) = ((2 ^ k : Nat) : Int) := by
  rw [pow_cast]
  have h1 : 2 ^ k < 2 ^ 63 := Nat.pow_lt_pow_right (by omega) hk
  exact wraps_i64 _ (Int.natCast_nonneg _) (by omega)
theorem w64_pow {k : Nat} (hk : k < 63) : wrap64 ((2 : Int) ^ k) = ((2 ^ k : Nat) : Int) := by
  rw [pow_cast]
  have h1 : 2 ^ k < 2 ^ 63 := Nat.pow_lt_pow_right (by omega) hk
  generalize 2 ^ k = x at h1 ⊢
  unfold wrap64
  omega
theorem or_step {W k : Nat} {f : Nat → Bool} (hW : ∀ v, W.testBit v = (decide (v < k) && f v)) (hf : f k = true) (v : Nat) : (W ||| 2 ^ k).testBit v = (decide (v < k + 1) && f v) := by
  rw [Nat.testBit_or, hW, Nat.testBit_two_pow]
  by_cases e : k = v
  · subst e; simp [hf]
  · have : (v < k + 1) = (v < k) := by apply propext; omega
    simp [e, this]
theorem no_step {W k : Nat} {f : Nat → Bool} (hW : ∀ v, W.testBit v = (decide (v < k) && f v)) (hf : f k = false) (v : Nat) : W.testBit v = (decide (v < k + 1) && f v) := by
  rw [hW]
  by_cases e : v = k
  · subst e; simp [hf]
  · have : (v < k + 1) = (v < k) := by apply propext; omega
    simp [this]
theorem bits_upto {W k : Nat} {f : Nat → Bool} (hW : ∀ v, W.testBit v = (decide (v < k) && f v)) : W < 2 ^ k := word_lt hW fun v hv => by rw [decide_eq_false (by omega)]; rfl
theorem pow_mono6 {W k : Nat} (h : W < 2 ^ k) (hk : k ≤ 6) : W < 2 ^ 6 := Nat.lt_of_lt_of_le h (Nat.pow_le_pow_right (by omega) hk)

set_option maxRecDepth 100000 in
set_option maxHeartbeats 1000000 in
theorem which_any (p : Pr) (gb : Nat) (op x y n : Int) (nv : Value) (U : List Int) (au : Option Addr) (cu : Nat) (w : World) (hG : GraphAt w p gb) (hp : p.types.length ≤ 6) (hU : InAt w Any U au) (hUl : U.length ≤ 1048576) :
    Calls Try.prog 145 #[.pointer (some ⟨gb, 0, none⟩), .agg #[.int .i64 op, .int .i64 x, .int .i64 y, .int .i64 n, nv], .slice au U.length cu] w (GotW (useB p.types op x y U) w) := by
  have hGA := hG
  obtain ⟨L, a3, n3, a4, n4, al, cl, hL, d0, d1, d2, hr1, hr2, hr3⟩ := hG
  have hG1 : Gr w (w.alloc (.cells #[.int .i64 op, .int .i64 x, .int .i64 y, .int .i64 n, nv] 88)) none := (Gr.refl _ _).alloc _
  have hE : (w.alloc (.cells #[.int .i64 op, .int .i64 x, .int .i64 y, .int .i64 n, nv] 88)).heap[w.heap.size]? = some (.cells #[.int .i64 op, .int .i64 x, .int .i64 y, .int .i64 n, nv] 88 (0, 0)) := heap1_0 _ _
  have e0 := hG1.cell d0 (by simp)
  have HE := Lib.hid hE
  have HG := Lib.hid hGA
  have HU := Lib.hid hU
  clear hL d0 d1 d2 hr1 hr2 hr3 hE hGA hU
  go_enter Try.func145, Try.ntmps145
  go_wp2_with fail
  generalize w.alloc (.cells #[.int .i64 op, .int .i64 x, .int .i64 y, .int .i64 n, nv] 88) = w1 at *
  go_loopw [7, 15] (fun s i wr => ∃ k W : Nat, k ≤ p.types.length ∧ i = .int .i64 k ∧ s = .int .i64 W ∧ (∀ v, W.testBit v = (decide (v < k) && useB p.types op x y U v)) ∧ Gr w1 wr none) (fun _ i _ => p.types.length - (intOf i).toNat)
  case atStart => exact ⟨0, 0, Nat.zero_le _, rfl, rfl, fun v => by simp, Gr.refl _ _⟩
  case round =>
    obtain ⟨k, W, hk, rfl, rfl, hW, hg⟩ := hrel
    have hW6 : W < 2 ^ 6 := pow_mono6 (bits_upto hW) (by omega)
    have HW := Lib.hid hW
    clear hW
    by_cases hlt : k < p.types.length
    · have hk6 : k < 6 := by omega
      have b0 := hg.cell (p := ⟨w.heap.size, 0, none⟩) (cell_of_row _ _ _ _ _ _ HE.out) (by simp)
      have b1 := hg.cell (p := ⟨w.heap.size, 1, none⟩) (cell_of_row _ _ _ _ _ _ HE.out) (by simp)
      have b2 := hg.cell (p := ⟨w.heap.size, 2, none⟩) (cell_of_row _ _ _ _ _ _ HE.out) (by simp)
      have b3 := hg.cell (p := ⟨w.heap.size, 3, none⟩) (cell_of_row _ _ _ _ _ _ HE.out) (by simp)
      have b4 := hg.cell (p := ⟨w.heap.size, 4, none⟩) (cell_of_row _ _ _ _ _ _ HE.out) (by simp)
      obtain ⟨B, hB⟩ : ∃ B, decide (useK p.types[k] op x y k ∈ U) = B := ⟨_, rfl⟩
      have HF := Lib.hid (show useB p.types op x y U k = B from (useB_at hlt).trans hB)
      have HB := Lib.hid hB
      clear hB
      go_wp2_with fail
      refine (use_any p gb k op x y n nv hlt _ (HG.out.gr (hG1.trans0 hg)) (by omega)).mono ?_
      rintro e w2 ⟨rfl, hg2⟩
      have hg3 : Gr w1 w2 none := hg.trans0 hg2
      clear hg2 b0 b1 b2 b3 b4
      go_wp2_with fail
      refine (hasI_any U _ au cu _ (HU.out.gr0 (hG1.trans0 hg3)) hUl).mono ?_
      rw [HB.out]
      rintro e w3 ⟨rfl, rfl⟩
      cases B with
      | true =>
        have hor : bits BinOp.or .i64 (W : Nat) (wrap64 (2 ^ k)) = ((W ||| 2 ^ k : Nat) : Int) := by
          rw [w64_pow (by omega)]; exact i64_or (by omega) (Nat.pow_lt_pow_right (by omega) (by omega))
        obtain ⟨W', hW'⟩ : ∃ W', W ||| 2 ^ k = W' := ⟨_, rfl⟩
        have HN := Lib.hid (show ∀ v, W'.testBit v = (decide (v < k + 1) && useB p.types op x y U v) from hW' ▸ or_step HW.out HF.out)
        rw [hW'] at hor
        clear hW'
        go_wp2_with fail
        go_roundw
        case rel => exact ⟨k + 1, W', by omega, by go_num, rfl, HN.out, hg3⟩
        case measure => simp [intOf]; omega
      | false =>
        have HN := Lib.hid (no_step HW.out HF.out)
        go_wp2_with fail
        go_roundw
        case rel => exact ⟨k + 1, W, by omega, by go_num, rfl, HN.out, hg3⟩
        case measure => simp [intOf]; omega
    · obtain rfl : k = p.types.length := by omega
      go_wp2_with fail
      go_ret
      exact ⟨W, rfl, fun v => by
        rw [HW.out]
        by_cases h : v < p.types.length
        · rw [decide_eq_true h]; rfl
        · rw [useB_out (by omega), Bool.and_false], hW6, hG1.trans0 hg⟩
theorem inAt_lit3 (w : World) (A : Obj) (a b c : Int) : InAt ((w.alloc A).alloc (.cells #[.int .i64 a, .int .i64 b, .int .i64 c] 3)) Any [a, b, c] (some ⟨w.heap.size + 1, 0, none⟩) := by
  refine InAt.of fun i hi => ⟨trivial, ?_⟩
  have h := heap2_1 w A (.cells #[.int .i64 a, .int .i64 b, .int .i64 c] 3)
  rw [cell_of_row _ _ _ _ _ _ h]
  match i, hi with
  | 0, _ => rfl
  | 1, _ => rfl
  | 2, _ => rfl
/-- What a point uses, what it takes, what it sets. -/
def usesB (T : List Int) (op x y : Int) : Nat → Bool := useB T op x y [1, 2, 3]
def takesB (T : List Int) (op x y : Int) : Nat → Bool := useB T op x y [2]
def setsB (op x : Int) (v : Nat) : Bool := decide (setOf op x = v)
set_option maxRecDepth 100000 in
set_option maxHeartbeats 1000000 in
theorem used_any (p : Pr) (gb : Nat) (op x y n : Int) (nv : Value) (w : World) (hG : GraphAt w p gb) (hp : p.types.length ≤ 6) :
    Calls Try.prog 146 #[.pointer (some ⟨gb, 0, none⟩), .agg #[.int .i64 op, .int .i64 x, .int .i64 y, .int .i64 n, nv]] w (GotW (usesB p.types op x y) w) := by
  have hg1 : ∀ o o', Gr w ((w.alloc o).alloc o') none := fun o o' => ((Gr.refl _ _).alloc _).alloc _
  go_enter Try.func146, Try.ntmps146
  go_wp2_with fail
  refine (which_any p gb op x y n nv [1, 2, 3] _ _ _ (hG.gr (hg1 _ _)) hp (inAt_lit3 _ _ _ _ _) (by simp)).mono ?_
  rintro e w1 ⟨W, rfl, hW, hlt, hg⟩
  have HW := Lib.hid hW
  clear hW
  go_wp2_with fail
  go_ret
  exact ⟨W, rfl, HW.out, hlt, (hg1 _ _).trans0 hg⟩
set_option maxRecDepth 100000 in
set_option maxHeartbeats 1000000 in
theorem taken_any (p : Pr) (gb : Nat) (op x y n : Int) (nv : Value) (w : World) (hG : GraphAt w p gb) (hp : p.types.length ≤ 6) :
    Calls Try.prog 100 #[.pointer (some ⟨gb, 0, none⟩), .agg #[.int .i64 op, .int .i64 x, .int .i64 y, .int .i64 n, nv]] w (GotW (takesB p.types op x y) w) := by
  have hg1 : ∀ o o', Gr w ((w.alloc o).alloc o') none := fun o o' => ((Gr.refl _ _).alloc _).alloc _
  go_enter Try.func100, Try.ntmps100
  go_wp2_with fail
  refine (which_any p gb op x y n nv [2] _ _ _ (hG.gr (hg1 _ _)) hp (inAt_one _ _ _) (by simp)).mono ?_
  rintro e w1 ⟨W, rfl, hW, hlt, hg⟩
  have HW := Lib.hid hW
  clear hW
  go_wp2_with fail
  go_ret
  exact ⟨W, rfl, HW.out, hlt, (hg1 _ _).trans0 hg⟩
set_option maxRecDepth 100000 in
set_option maxHeartbeats 1000000 in
theorem setBit_any (op x y n : Int) (nv : Value) (w : World) (hx : setOf op x < 6) (hx0 : -1 ≤ setOf op x) :
    Calls Try.prog 147 #[.agg #[.int .i64 op, .int .i64 x, .int .i64 y, .int .i64 n, nv]] w (GotW (setsB op x) w) := by
  have hg1 : ∀ o, Gr w (w.alloc o) none := fun o => (Gr.refl _ _).alloc _
  obtain ⟨s, hs⟩ : ∃ s, setOf op x = s := ⟨_, rfl⟩
  rw [hs] at hx hx0
  have HS := Lib.hid hs
  clear hs
  go_enter Try.func147, Try.ntmps147
  go_wp2_with fail
  refine (sets_any op x y n nv _).mono ?_
  rw [HS.out]
  rintro e w1 ⟨rfl, hg⟩
  by_cases h0 : 0 ≤ s
  · obtain ⟨k, rfl⟩ := Int.eq_ofNat_of_zero_le h0
    have hk : k < 6 := by omega
    have hp : wrap64 (2 ^ k) = ((2 ^ k : Nat) : Int) := w64_pow (by omega)
    have hlt : 2 ^ k < 2 ^ 6 := Nat.pow_lt_pow_right (by omega) hk
    have HP := Lib.hid (show ∀ v, (2 ^ k).testBit v = setsB op x v from fun v => by
      unfold setsB; rw [HS.out, Nat.testBit_two_pow]; apply decide_eq_decide.2; omega)
    obtain ⟨W, hW⟩ : ∃ W, 2 ^ k = W := ⟨_, rfl⟩
    rw [hW] at hp hlt HP
    clear hW
    go_wp2_with fail
    go_ret
    exact ⟨W, ret_int hp, HP.out, hlt, (hg1 _).trans0 hg⟩
  · go_wp2_with fail
    go_ret
    exact ⟨0, rfl, fun v => by unfold setsB; rw [HS.out, Nat.zero_testBit]; exact (decide_eq_false (by omega)).symm, by omega, (hg1 _).trans0 hg⟩
set_option maxRecDepth 100000 in
set_option maxHeartbeats 1000000 in
theorem bits_any (x : Nat) (w : World) (hx : x < 2 ^ 6) :
    Calls Try.prog 101 #[.int .i64 x] w (HandI (coll x.testBit 6) w) := by
  have hC0 : Coll w w.heap.size w.heap.size x.testBit 0 none 0 0 := Coll.nil _ (Nat.le_refl _) _
  have HX := Lib.hid hx
  go_enter Try.func101, Try.ntmps101
  go_wp2_with fail
  go_loopw [3, 4] (fun v i wr => ∃ (k m cap : Nat) (ao : Option Addr), k ≤ 6 ∧ i = .int .i64 k ∧ v = .slice ao m cap ∧ Coll wr w.heap.size w.heap.size x.testBit k ao m cap ∧ Gr w wr none) (fun _ i _ => 6 - (intOf i).toNat)
  case atStart => exact ⟨0, 0, 0, _, Nat.zero_le _, rfl, rfl, hC0, Gr.refl _ _⟩
  case round =>
    obtain ⟨k, m, cap, ao, hkl, rfl, rfl, hCo, hgr⟩ := hrel
    have hnk := hCo.le
    have HCo := Lib.hid hCo
    clear hCo hC0
    have hsh : (x : Int) / 2 ^ k = ((x / 2 ^ k : Nat) : Int) := by simp
    have HD0 := Lib.hid (show x / 2 ^ k = 0 ↔ x < 2 ^ k from shr_zero)
    have hbit0 : bits BinOp.and IntKind.i64 (((x / 2 ^ k : Nat) : Int)) 1 = if x.testBit k then 1 else 0 := i64_bit (by omega)
    obtain ⟨d, hd⟩ : ∃ d, x / 2 ^ k = d := ⟨_, rfl⟩
    rw [hd] at hsh HD0 hbit0
    clear hd
    by_cases h0 : d = 0
    · have HE := Lib.hid (HD0.out.1 h0)
      subst h0
      have hsh' : (x : Int) / 2 ^ k = 0 := by simpa using hsh
      clear hsh hbit0
      have HO := Lib.hid (show coll x.testBit 6 = coll x.testBit k from coll_up (fun i hi => Nat.testBit_lt_two_pow (Nat.lt_of_lt_of_le HE.out (Nat.pow_le_pow_right (by omega) hi))) 6 hkl)
      go_wp2_with fail
      go_ret
      exact HCo.out.hand HO.out hgr
    · have hk6 : k < 6 := by
        rcases Nat.lt_or_ge k 6 with h | h
        · exact h
        · obtain rfl : k = 6 := by omega
          exact absurd (HD0.out.2 HX.out) h0
      have hpos : (0 : Int) < (d : Int) := by omega
      cases hb : x.testBit k with
      | true =>
        have HB := Lib.hid hb
        rw [hb, if_pos rfl] at hbit0
        clear hb h0
        go_wp2_with (at_builtin; refine app_c wr _ rfl (.tmp 16) (.tmp 18) rfl w.heap.size w.heap.size ao cap m _ k rfl HCo.out ((Gr.refl _ _).alloc _) HB.out wr.heap.size 1 rfl (cell_of_row _ _ _ _ _ _ (heap1_0 _ _)) (by omega) hgr.size ?_; rintro g cap' w4 hC4 hg4)
        go_roundw
        case rel => exact ⟨k + 1, m + 1, cap', _, by omega, by go_num, rfl, hC4, hg4 _ (hgr.alloc _) (Nat.le_refl _)⟩
        case measure => simp [intOf]; omega
      | false =>
        have HB := Lib.hid hb
        rw [hb, if_neg (by simp)] at hbit0
        clear hb h0
        go_wp2_with fail
        go_roundw
        case rel => exact ⟨k + 1, m, cap, ao, by omega, by go_num, rfl, HCo.out.no HB.out, hgr⟩
        case measure => simp [intOf]; omega
/-- The words of a list of ints. -/
def WRow (w : World) (g n : Nat) (O : Nat → Nat) : Prop := IRow w g n (fun j => (O j : Int))
theorem or_any (l : List Nat) (O : Nat → Nat) (k v : Nat) (h : k < l.length) (W : Nat) (hW : ∀ v, W.testBit v = (l.take k).any fun j => (O j).testBit v) : (W ||| O l[k]).testBit v = (l.take (k + 1)).any fun j => (O j).testBit v := by
  rw [Nat.testBit_or, hW, List.take_succ_eq_append_getElem h, List.any_append]; simp
set_option maxRecDepth 100000 in
set_option maxHeartbeats 1000000 in
theorem after_any (p : Pr) (gb : Nat) (go co a : Nat) (O : Nat → Nat) (w : World) (hG : GraphAt w p gb) (hO : WRow w go (pts p).length O) (hlt : ∀ j, O j < 2 ^ 6) (ha : a < (pts p).length) (_hl : (pts p).length ≤ 100) :
    Calls Try.prog 105 #[.pointer (some ⟨gb, 0, none⟩), .slice (some ⟨go, 0, none⟩) (pts p).length co, .int .i64 a] w (GotW (fun v => (nextOf (pts p) a).any fun j => (O j).testBit v) w) := by
  have hN := (pts_next p) a ha
  obtain ⟨L, a3, n3, a4, n4, al, cl, hL, d0, d1, d2, hr1, hr2, hr3⟩ := hG
  rw [← hL] at hO ha hN ⊢
  obtain ⟨b, off, rfl, an, cn, c0, c1, c2, c3, c4, hin, -⟩ := hr3 a ha
  rw [← nextOf_get ha] at c4 hin
  have HO := Lib.hid hO
  have HLT := Lib.hid hlt
  obtain ⟨N, hNN⟩ : ∃ N, nextOf L a = N := ⟨_, rfl⟩
  rw [hNN] at c4 hin hN ⊢
  rw [← zs_length] at c4
  obtain ⟨hN2, hNl⟩ := hN
  have HNl := Lib.hid hNl
  have hzl := zs_length N
  rw [← hzl] at hN2
  have HIN := Lib.hid hin
  clear hL c0 c1 c2 c3 d0 d1 hr1 hr2 hr3 hO hlt hNN hNl hin
  obtain ⟨m, hm⟩ : ∃ m, (zs N).length = m := ⟨_, rfl⟩
  rw [hm] at c4 hN2 hzl
  have HM := Lib.hid hm
  have HZL := Lib.hid hzl
  clear hm hzl
  go_enter Try.func105, Try.ntmps105
  go_wp2_with fail
  go_loop [7, 19] (fun s i => ∃ k W : Nat, k ≤ m ∧ i = .int .i64 k ∧ s = .int .i64 W ∧ W < 2 ^ 6 ∧ ∀ v, W.testBit v = (N.take k).any fun j => (O j).testBit v) (fun _ i => m - (intOf i).toNat)
  case atStart => exact ⟨0, 0, Nat.zero_le _, rfl, rfl, by omega, fun v => by simp⟩
  case round =>
    obtain ⟨k, W, hk, rfl, rfl, hW6, hW⟩ := hrel
    have HW := Lib.hid hW
    clear hW
    by_cases hlt : k < m
    · have hkN : k < N.length := by rw [← HZL.out]; exact hlt
      have hkz : k < (zs N).length := by rw [HM.out]; exact hlt
      obtain ⟨b1, o1, rfl, -, c5⟩ := HIN.out.at hkz
      obtain ⟨j, hj⟩ : ∃ j, N[k] = j := ⟨_, rfl⟩
      have hjL : j < L.length := by rw [← hj]; exact HNl.out _ (List.getElem_mem hkN)
      have hzk : (zs N)[k] = (j : Int) := by rw [← hj]; simp [zs]
      rw [hzk] at c5
      have c6 := HO.out.cell hjL
      have hor : bits BinOp.or .i64 (W : Nat) (O j : Nat) = ((W ||| O j : Nat) : Int) := i64_or (by omega) (by have := HLT.out j; omega)
      have hW' : W ||| O j < 2 ^ 6 := Nat.or_lt_two_pow hW6 (HLT.out j)
      have HN := Lib.hid (show ∀ v, (W ||| O j).testBit v = (N.take (k + 1)).any fun j => (O j).testBit v from fun v => by rw [← hj]; exact or_any N O k v hkN W HW.out)
      obtain ⟨W', hWW⟩ : ∃ W', W ||| O j = W' := ⟨_, rfl⟩
      rw [hWW] at hor hW' HN
      obtain ⟨Oj, hOj⟩ : ∃ Oj, O j = Oj := ⟨_, rfl⟩
      rw [hOj] at c6 hor
      clear hWW hj hzk hOj
      go_wp2_with fail
      go_round
      case rel => exact ⟨k + 1, W', by omega, by go_num, rfl, hW', HN.out⟩
      case measure => simp [intOf]; omega
    · obtain rfl : k = m := by omega
      go_wp2_with fail
      go_ret
      exact ⟨W, rfl, fun v => by rw [HW.out, List.take_of_length_le (by rw [← HZL.out]; exact Nat.le_refl _)], hW6, Gr.refl _ _⟩
end Go.Proofs.Ytdnhinkjmjpnnaa

namespace Go.Proofs.Ytdnhinkjmjpnnaa

open Go.RowKit

theorem pt_ok {p : Pr} (hv : validP p = true) {k : Nat} (hk : k < (pts p).length) : ((pts p)[k]).op = 9 ∨ ((pts p)[k]).op = 10 ∨ ((pts p)[k]).op = 11 ∨ simpleS p.types ((pts p)[k]).op ((pts p)[k]).x ((pts p)[k]).y ((pts p)[k]).n = true :=
  pts_simple hv _ (List.getElem_mem hk)
theorem simple_x {types : List Int} {op x y n : Int} (h : simpleS types op x y n = true) : 1 ≤ op ∧ op ≤ 8 ∧ ∃ i : Nat, x = i ∧ i < types.length := by
  have ho : (op = 1 ∨ op = 2 ∨ op = 3 ∨ op = 4 ∨ op = 5 ∨ op = 6 ∨ op = 7 ∨ op = 8) ∧ tyOf types x ≠ 0 := by
    unfold simpleS at h
    by_cases h1 : op = 1
    · subst h1; simp at h; omega
    by_cases h2 : op = 2
    · subst h2; simp at h; omega
    by_cases h3 : op = 3
    · subst h3; simp at h; omega
    by_cases h4 : op = 4
    · subst h4; simp at h; omega
    by_cases h5 : op = 5
    · subst h5; simp at h; omega
    by_cases h6 : op = 6
    · subst h6; simp at h; omega
    by_cases h7 : op = 7
    · subst h7; simp at h; omega
    by_cases h8 : op = 8
    · subst h8; simp at h; omega
    · simp [h1, h2, h3, h4, h5, h6, h7, h8] at h
  have hx := tyOf_in ho.2
  exact ⟨by omega, by omega, x.toNat, by omega, by omega⟩
theorem simple_n {types : List Int} {x y n : Int} (h : simpleS types 1 x y n = true) : 0 ≤ n ∧ n ≤ 9 := by
  unfold simpleS at h; simp at h; omega
/-- A point sets a variable, or none. -/
theorem set_in {p : Pr} (hv : validP p = true) {k : Nat} (hk : k < (pts p).length) : -1 ≤ setOf ((pts p)[k]).op ((pts p)[k]).x ∧ setOf ((pts p)[k]).op ((pts p)[k]).x < p.types.length := by
  have h := pt_ok hv hk
  unfold setOf
  split
  · rename_i ho
    rcases h with h | h | h | h
    · omega
    · omega
    · omega
    · obtain ⟨_, _, i, hx, hi⟩ := simple_x h
      omega
  · omega
theorem pts_pos' (p : Pr) : 0 < (pts p).length := by unfold pts; simp
/-- Pairs of a point and a number below m. -/
def boxL (n m : Nat) : List (Nat × Nat) := (List.range n).flatMap fun i => (List.range m).map fun v => (i, v)
theorem boxL_mem {n m i v : Nat} (hi : i < n) (hv : v < m) : (i, v) ∈ boxL n m := by
  unfold boxL
  rw [List.mem_flatMap]
  exact ⟨i, List.mem_range.2 hi, List.mem_map.2 ⟨v, List.mem_range.2 hv, rfl⟩⟩
/-- Two words that part have a bit that parts them. -/
theorem bit_ne {a b m : Nat} (ha : a < 2 ^ m) (hb : b < 2 ^ m) (h : a ≠ b) : ∃ v, v < m ∧ a.testBit v ≠ b.testBit v := by
  rcases Classical.em (∃ v, a.testBit v ≠ b.testBit v) with ⟨v, hv⟩ | hn
  · refine ⟨v, ?_, hv⟩
    rcases Nat.lt_or_ge v m with h1 | h1
    · exact h1
    · exact absurd (by rw [Nat.testBit_lt_two_pow (Nat.lt_of_lt_of_le ha (Nat.pow_le_pow_right (by omega) h1)), Nat.testBit_lt_two_pow (Nat.lt_of_lt_of_le hb (Nat.pow_le_pow_right (by omega) h1))]) hv
  · exact absurd (Nat.eq_of_testBit_eq fun v => Classical.byContradiction fun hv => hn ⟨v, hv⟩) h
/-- Words as a table. -/
def tb (O : Nat → Nat) : Nat → Nat → Bool := fun i v => (O i).testBit v
theorem tb_upd (O : Nat → Nat) (a W : Nat) : tb (updW O a W) = updF (tb O) a (fun v => W.testBit v) := by
  funext i v
  unfold tb updW updF
  split <;> rfl
theorem WRow.upd {w : World} {g n : Nat} {O : Nat → Nat} (h : WRow w g n O) (a W : Nat) : WRow (w.setCell ⟨g, a, none⟩ (.int .i64 (W : Nat))) g n (updW O a W) := by
  have := IRow.set h a (W : Int)
  refine IRow.congr this fun j _ => ?_
  unfold updW
  split <;> rfl
/-- What a point uses, and what it does not set. -/
def usL (T : List Int) (L : List Pt) (i v : Nat) : Bool := usesB T (ptAt L i).op (ptAt L i).x (ptAt L i).y v
def nsL (L : List Pt) (i v : Nat) : Bool := !setsB (ptAt L i).op (ptAt L i).x v
theorem useK_in (t op x y v : Int) : (useK t op x y v != 0) = decide (useK t op x y v ∈ ([1, 2, 3] : List Int)) := by
  have : useK t op x y v = 0 ∨ useK t op x y v = 1 ∨ useK t op x y v = 2 ∨ useK t op x y v = 3 := by
    unfold useK; (repeat' split) <;> simp
  rcases this with h | h | h | h <;> rw [h] <;> rfl
theorem use_ne {T : List Int} {op x y : Int} {v : Nat} (h : v < T.length) : (useK T[v] op x y v != 0) = usesB T op x y v := by
  unfold usesB; rw [useB_at h, useK_in]
theorem take_eq {T : List Int} {op x y : Int} {v : Nat} (h : v < T.length) : (useK T[v] op x y v == 2) = takesB T op x y v := by
  unfold takesB; rw [useB_at h, Bool.eq_iff_iff]; simp
end Go.Proofs.Ytdnhinkjmjpnnaa

namespace Go.Proofs.Ytdnhinkjmjpnnaa

open Go.RowKit

section

variable {β : Type}

/-- At the point a, whose row is R: Q tells to which rows which parts of it have been added. -/
def FwJ (B : List (Nat × β)) (L : List Pt) (I : β → Prop) (A : Nat → (β → Prop) → β → Prop) (F0 F : Nat → β → Bool) (c : Bool) (a : Nat) (R : β → Bool) (Q : Nat → β → Prop) : Prop :=
  FwOk L I A F ∧ (∀ i b, F0 i b = true → F i b = true) ∧ (c = true → cntG B F0 < cntG B F) ∧ (∀ b, R b = true → A a (Least (FwS L I A) a) b) ∧
  (c = false → F = F0 ∧ (∀ i, i < a → ∀ k ∈ nextOf L i, ∀ b, A i (fun b => F i b = true) b → F k b = true) ∧ (∀ b, A a (fun b => F a b = true) b → R b = true) ∧
    ∀ k b, Q k b → R b = true → F k b = true)
variable {B : List (Nat × β)} {L : List Pt} {I : β → Prop} {A : Nat → (β → Prop) → β → Prop} {F0 F : Nat → β → Bool} {c : Bool} {a : Nat} {R : β → Bool} {Q Q' : Nat → β → Prop}

theorem FwR.enterJ (hA : MonoA A) (h : FwR B L I A F0 F c a) (hR : ∀ b, R b = true ↔ A a (fun b => F a b = true) b) : FwJ B L I A F0 F c a R (fun _ _ => False) := by
  obtain ⟨h1, h2, h3, h4⟩ := h
  exact ⟨h1, h2, h3, fun b hb => hA a _ _ (fun b hb => h1.1 a b hb) b ((hR b).1 hb), fun hc => ⟨(h4 hc).1, (h4 hc).2, fun b => (hR b).2, fun _ _ hq => hq.elim⟩⟩
theorem FwJ.mono (h : FwJ B L I A F0 F c a R Q) (hQ : ∀ k b, Q' k b → R b = true → Q k b) : FwJ B L I A F0 F c a R Q' := by
  obtain ⟨h1, h2, h3, h4, h5⟩ := h
  exact ⟨h1, h2, h3, h4, fun hc => ⟨(h5 hc).1, (h5 hc).2.1, (h5 hc).2.2.1, fun k b hq hr => (h5 hc).2.2.2 k b (hQ k b hq hr) hr⟩⟩
theorem FwJ.same (h : FwJ B L I A F0 F c a R Q) (hQ : ∀ k b, Q' k b → R b = true → Q k b ∨ F k b = true) : FwJ B L I A F0 F c a R Q' := by
  obtain ⟨h1, h2, h3, h4, h5⟩ := h
  refine ⟨h1, h2, h3, h4, fun hc => ⟨(h5 hc).1, (h5 hc).2.1, (h5 hc).2.2.1, fun k b hq hr => ?_⟩⟩
  rcases hQ k b hq hr with hq | hq
  · exact (h5 hc).2.2.2 k b hq hr
  · exact hq
theorem FwJ.change (hA : MonoA A) (ha : a < L.length) (h : FwJ B L I A F0 F c a R Q) {k : Nat} (hk : k ∈ nextOf L a) {R' : β → Bool} (hR : ∀ b, R' b = true → R b = true) {b : β} (hB : (k, b) ∈ B) (hb : R' b = true) (hn : F k b = false) : FwJ B L I A F0 (mrg F k R') true a R Q' := by
  obtain ⟨h1, h2, h3, h4, h5⟩ := h
  refine ⟨h1.mrg hA ha (fun b hb => h4 b (hR b hb)) hk, fun i b hb => mrg_ge _ _ _ _ _ (h2 i b hb), fun _ => ?_, h4, fun h => by cases h⟩
  exact Nat.lt_of_le_of_lt (cntG_mono h2) (cntG_lt (fun i b hb => mrg_ge _ _ _ _ _ hb) hB hn (mrg_at _ _ _ _ hb))
theorem FwJ.exit (h : FwJ B L I A F0 F c a R Q) (hQ : ∀ k ∈ nextOf L a, ∀ b, R b = true → Q k b) : FwR B L I A F0 F c (a + 1) := by
  obtain ⟨h1, h2, h3, h4, h5⟩ := h
  refine ⟨h1, h2, h3, fun hc => ?_⟩
  obtain ⟨e1, e2, e3, e4⟩ := h5 hc
  refine ⟨e1, fun i hi k hk b hb => ?_⟩
  by_cases e : i = a
  · subst e
    exact e4 k b (hQ k hk b (e3 b hb)) (e3 b hb)
  · exact e2 i (by omega) k hk b hb
end

/-! ### Words for each point and variable -/

/-- Words as a table of bits. -/
def tb2 (W : Nat → Nat → Nat) : Nat → Nat × Nat → Bool := fun i b => (W i b.1).testBit b.2
def upd2 (W : Nat → Nat → Nat) (i v x : Nat) : Nat → Nat → Nat := fun k u => if k = i ∧ u = v then x else W k u
theorem upd2_lt {W : Nat → Nat → Nat} {i v x N : Nat} (h : ∀ i v, W i v < 2 ^ N) (hx : x < 2 ^ N) : ∀ k u, upd2 W i v x k u < 2 ^ N := by
  intro k u; unfold upd2; split
  · exact hx
  · exact h k u
/-- The part of a row of words that is of the variable v. -/
def rowV (O : Nat → Nat) (v : Nat) (b : Nat × Nat) : Bool := decide (b.1 = v) && (O b.1).testBit b.2
def rowW (O : Nat → Nat) (b : Nat × Nat) : Bool := decide (b.1 < 6) && (O b.1).testBit b.2
theorem tb2_or (W : Nat → Nat → Nat) (O : Nat → Nat) (k v : Nat) : tb2 (upd2 W k v (W k v ||| O v)) = mrg (tb2 W) k (rowV O v) := by
  funext i b
  unfold tb2 upd2 mrg rowV
  by_cases e : i = k
  · subst e
    by_cases e2 : b.1 = v
    · subst e2; simp [Nat.testBit_or]
    · simp [e2]
  · simp [e]
def boxL2 (n : Nat) : List (Nat × (Nat × Nat)) := (List.range n).flatMap fun i => (List.range 6).flatMap fun v => (List.range 64).map fun k => (i, (v, k))
theorem boxL2_mem {n i v k : Nat} (hi : i < n) (hv : v < 6) (hk : k < 64) : (i, (v, k)) ∈ boxL2 n := by
  unfold boxL2
  rw [List.mem_flatMap]
  refine ⟨i, List.mem_range.2 hi, ?_⟩
  rw [List.mem_flatMap]
  exact ⟨v, List.mem_range.2 hv, List.mem_map.2 ⟨k, List.mem_range.2 hk, rfl⟩⟩
theorem or_ne {a b : Nat} (ha : a < 2 ^ 64) (hb : b < 2 ^ 64) (h : a ||| b ≠ a) : ∃ k, k < 64 ∧ b.testBit k = true ∧ a.testBit k = false := by
  obtain ⟨k, hk, hne⟩ := bit_ne (Nat.or_lt_two_pow ha hb) ha h
  refine ⟨k, hk, ?_⟩
  rw [Nat.testBit_or] at hne
  cases h1 : a.testBit k <;> cases h2 : b.testBit k <;> simp [h1, h2] at hne ⊢
theorem or_same {a b k : Nat} (h : a ||| b = a) (hb : b.testBit k = true) : a.testBit k = true := by
  have := congrArg (fun x => x.testBit k) h
  simp only [Nat.testBit_or, hb, Bool.or_true] at this
  exact this.symm

/-! ### What variables can have -/

/-- What is known behind a point: val tells what the variable that it sets gets. -/
def trkA (T : List Int) (L : List Pt) (val : Nat → (Nat × Nat → Prop) → Nat → Prop) (i : Nat) (Y : Nat × Nat → Prop) (b : Nat × Nat) : Prop :=
  if setOf (ptAt L i).op (ptAt L i).x = (b.1 : Int) then val i Y b.2 else takesB T (ptAt L i).op (ptAt L i).x (ptAt L i).y b.1 = false ∧ Y b
def MonoV (val : Nat → (Nat × Nat → Prop) → Nat → Prop) : Prop := ∀ i (Y Z : Nat × Nat → Prop), (∀ b, Y b → Z b) → ∀ k, val i Y k → val i Z k
theorem trkA_mono {T : List Int} {L : List Pt} {val : Nat → (Nat × Nat → Prop) → Nat → Prop} (h : MonoV val) : MonoA (trkA T L val) := by
  intro i Y Z hYZ b hb
  unfold trkA at *
  split
  · rename_i e; rw [if_pos e] at hb; exact h i Y Z hYZ _ hb
  · rename_i e; rw [if_neg e] at hb; exact ⟨hb.1, hYZ _ hb.2⟩
/-- What is known before each point of what each variable can have. -/
def Trk (p : Pr) (val : Nat → (Nat × Nat → Prop) → Nat → Prop) : Nat → Nat × Nat → Prop := Least (FwS (pts p) (fun _ => False) (trkA p.types (pts p) val))
/-- The words behind a point. -/
def aftW (s : Int) (tk : Nat → Bool) (V : Nat) (O : Nat → Nat) (v : Nat) : Nat := if s = (v : Int) then V else if tk v = true then 0 else O v
theorem aftW_row {T : List Int} {L : List Pt} {val : Nat → (Nat × Nat → Prop) → Nat → Prop} {i : Nat} {W : Nat → Nat → Nat} {V : Nat} {s : Int} {tk : Nat → Bool} (hs : setOf (ptAt L i).op (ptAt L i).x = s) (hs6 : s < 6) (ht : ∀ v, tk v = takesB T (ptAt L i).op (ptAt L i).x (ptAt L i).y v) (hT : ∀ v b, 6 ≤ v → (W i v).testBit b = false)
    (hV : 0 ≤ s → ∀ k, V.testBit k = true ↔ val i (fun b => tb2 W i b = true) k) (b : Nat × Nat) : rowW (aftW s tk V (W i)) b = true ↔ trkA T L val i (fun b => tb2 W i b = true) b := by
  unfold rowW trkA aftW
  rw [hs, Bool.and_eq_true, decide_eq_true_eq]
  by_cases e : s = (b.1 : Int)
  · rw [if_pos e, if_pos e, hV (by omega)]
    constructor
    · exact fun h => h.2
    · exact fun h => ⟨by omega, h⟩
  · rw [if_neg e, if_neg e, ← ht]
    cases h : tk b.1 with
    | true => simp
    | false =>
      simp only [Bool.false_eq_true, if_false, true_and]
      constructor
      · exact fun h => h.2
      · intro h
        refine ⟨?_, h⟩
        rcases Nat.lt_or_ge b.1 6 with h6 | h6
        · exact h6
        · unfold tb2 at h; rw [hT _ _ h6] at h; cases h
/-- The parts that have been added: to the first j of what comes next all, to the next one what is of the variables below u. -/
def QV (N : List Nat) (j u : Nat) (k : Nat) (b : Nat × Nat) : Prop := (∃ j', j' < j ∧ N[j']? = some k) ∨ (b.1 < u ∧ N[j]? = some k)
theorem QV.next {N : List Nat} {j : Nat} {O : Nat → Nat} (k : Nat) (b : Nat × Nat) (h : QV N (j + 1) 0 k b) (hr : rowW O b = true) : QV N j 6 k b := by
  have h6 : b.1 < 6 := by unfold rowW at hr; simp at hr; exact hr.1
  rcases h with ⟨j', h1, h2⟩ | ⟨h, _⟩
  · by_cases e : j' = j
    · subst e; exact .inr ⟨h6, h2⟩
    · exact .inl ⟨j', by omega, h2⟩
  · omega
theorem QV.step {N : List Nat} {j u x : Nat} (hx : N[j]? = some x) {W : Nat → Nat → Nat} {O : Nat → Nat} (hs : W x u ||| O u = W x u) (k : Nat) (b : Nat × Nat) (h : QV N j (u + 1) k b) (hr : rowW O b = true) : QV N j u k b ∨ tb2 W k b = true := by
  rcases h with h | ⟨h1, h2⟩
  · exact .inl (.inl h)
  · by_cases e : b.1 = u
    · refine .inr ?_
      rw [hx] at h2
      obtain rfl : x = k := by simpa using h2
      subst e
      unfold rowW at hr
      simp only [Bool.and_eq_true] at hr
      exact or_same hs hr.2
    · exact .inl (.inr ⟨by omega, h2⟩)
theorem QV.exit {L : List Pt} {a j : Nat} (hj : (nextOf L a).length ≤ j) (k : Nat) (hk : k ∈ nextOf L a) (b : Nat × Nat) : QV (nextOf L a) j 0 k b := by
  obtain ⟨j', hj', rfl⟩ := List.getElem_of_mem hk
  exact .inl ⟨j', by omega, List.getElem?_eq_getElem hj'⟩
theorem rowV_le {O : Nat → Nat} {v : Nat} (hv : v < 6) (b : Nat × Nat) (h : rowV O v b = true) : rowW O b = true := by
  unfold rowV at h; unfold rowW
  simp only [Bool.and_eq_true, decide_eq_true_eq] at h ⊢
  exact ⟨by omega, h.2⟩

/-! ### A block of rows of six words -/

def FRow (w : World) (g n : Nat) (W : Nat → Nat → Nat) : Prop := ∃ arr : Array Value, w.heap[g]? = some (.cells arr 83 (0, 0)) ∧ arr.size = n * 6 ∧ ∀ i v, i < n → v < 6 → arr[i * 6 + v]? = some (.int .u64 (W i v : Nat))
theorem FRow.cell {w : World} {g n : Nat} {W : Nat → Nat → Nat} (h : FRow w g n W) {i v : Nat} (hi : i < n) (hv : v < 6) : w.cell? ⟨g, i * 6 + v, none⟩ = some (.int .u64 (W i v : Nat)) := by
  obtain ⟨arr, h1, h2, h3⟩ := h
  rw [cell_of_row w g _ _ _ _ h1]; exact h3 i v hi hv
theorem FRow.free {w : World} {g n : Nat} {W : Nat → Nat → Nat} (h : FRow w g n W) (j : Nat) : w.frozen? ⟨g, j, none⟩ = false := by
  obtain ⟨arr, h1, _⟩ := h
  simp [World.frozen?, h1]
theorem FRow.lt {w : World} {g n : Nat} {W : Nat → Nat → Nat} (h : FRow w g n W) : g < w.heap.size := by
  obtain ⟨arr, h1, _⟩ := h
  exact lt_of_block h1
theorem FRow.gr {w w' : World} {g n : Nat} {W : Nat → Nat → Nat} {row : Option Nat} (h : FRow w g n W) (hg : Gr w w' row) (hr : row ≠ some g) : FRow w' g n W := by
  have hlt := h.lt
  obtain ⟨arr, h1, h2, h3⟩ := h
  exact ⟨arr, by rw [hg.block g hlt (fun e => hr e.symm)]; exact h1, h2, h3⟩
theorem FRow.gr0 {w w' : World} {g n : Nat} {W : Nat → Nat → Nat} (h : FRow w g n W) (hg : Gr w w' none) : FRow w' g n W := h.gr hg (by simp)
theorem FRow.set {w : World} {g n : Nat} {W : Nat → Nat → Nat} (h : FRow w g n W) (i v x : Nat) (hv : v < 6) : FRow (w.setCell ⟨g, i * 6 + v, none⟩ (.int .u64 (x : Nat))) g n (upd2 W i v x) := by
  obtain ⟨arr, h1, h2, h3⟩ := h
  refine ⟨_, row_set _ h1, by simpa using h2, fun k u hk hu => ?_⟩
  unfold upd2
  by_cases e : k = i ∧ u = v
  · obtain ⟨rfl, rfl⟩ := e
    rw [if_pos ⟨rfl, rfl⟩, Array.getElem?_setIfInBounds_self, if_pos (by rw [h2]; omega)]
  · rw [if_neg e, Array.getElem?_setIfInBounds_ne (by intro h; apply e; omega), h3 k u hk hu]
theorem Finfo : (Try.prog.info? 83).map (fun i => (i.zero, i.size, i.bytes)) = some (some (.agg (words fun _ => 0)), 6, 48) := by kernel_rfl
def fzero : Array Value := #[.int .u64 0, .int .u64 0, .int .u64 0, .int .u64 0, .int .u64 0, .int .u64 0]
theorem run_make6 (n : Nat) (hn : n ≤ 1000) (w : World) : (Instr.makeSlice 116 (.int .i64 (n : Int)) (.int .i64 (n : Int))).run Try.prog w = .ok (.slice (some ⟨w.heap.size, 0, none⟩) n n) (w.alloc (.cells (madeCells fzero (n * 6)) 83)) := by
  obtain ⟨i, hi, hzz⟩ := Option.map_eq_some_iff.1 Finfo
  simp only [Prod.mk.injEq] at hzz
  obtain ⟨hz, hs, hb⟩ := hzz
  have hr := run_make (P := Try.prog) w 116 83 i _ Try.underlying116 hi hz .i64 .i64 n n (by omega) (Int.le_refl _) (by rw [hb]; omega) (by omega)
  simp only [Int.toNat_natCast, hs] at hr
  exact hr
theorem FRow.new (w : World) (n : Nat) : FRow (w.alloc (.cells (madeCells fzero (n * 6)) 83)) w.heap.size n (fun _ _ => 0) := by
  refine ⟨_, heap1_0 _ _, by simp [madeCells], fun i v hi hv => ?_⟩
  unfold madeCells
  have h1 : i * 6 + v < n * 6 := by omega
  have h2 : (i * 6 + v) % fzero.size = v := by show (i * 6 + v) % 6 = v; omega
  simp only [Array.getElem?_map, Array.getElem?_range, h1, if_true, Option.map_some, h2]
  match v, hv with
  | 0, _ => rfl
  | 1, _ => rfl
  | 2, _ => rfl
  | 3, _ => rfl
  | 4, _ => rfl
  | 5, _ => rfl

theorem zero_step {O : Nat → Nat} {l : List Int} {k j : Nat} (h : k < l.length) (e : l[k] = (j : Int)) (v : Nat) : updW (fun v => if (v : Int) ∈ l.take k then 0 else O v) j 0 v = if (v : Int) ∈ l.take (k + 1) then 0 else O v := by
  unfold updW
  rw [List.take_succ_eq_append_getElem h, e]
  by_cases e2 : v = j
  · subst e2; simp
  · have : ¬ (v : Int) = (j : Int) := by omega
    simp [e2, this]
/-- What a function that tells what is set says. -/
def Tells (val : Nat → (Nat × Nat → Prop) → Nat → Prop) (i : Nat) (O : Nat → Nat) (w : World) (e : Ending) (w' : World) : Prop :=
  ∃ V : Nat, e = .returned (.int .u64 (V : Nat)) ∧ V < 2 ^ 64 ∧ (∀ k, V.testBit k = true ↔ val i (fun b => (O b.1).testBit b.2 = true) k) ∧ Gr w w' none
def Tracked (p : Pr) (val : Nat → (Nat × Nat → Prop) → Nat → Prop) (w : World) (e : Ending) (w' : World) : Prop :=
  ∃ (g : Nat) (W : Nat → Nat → Nat), e = .returned (.slice (some ⟨g, 0, none⟩) (pts p).length (pts p).length) ∧ FRow w' g (pts p).length W ∧ (∀ i v, W i v < 2 ^ 64) ∧ (∀ i b, tb2 W i b = true ↔ Trk p val i b) ∧ Gr w w' none
open Classical in

/-- Can v have k before the point a? -/
noncomputable def trkB (p : Pr) (val : Nat → (Nat × Nat → Prop) → Nat → Prop) (a v k : Nat) : Bool := decide (Trk p val a (v, k))
theorem trkB_iff {p : Pr} {val : Nat → (Nat × Nat → Prop) → Nat → Prop} {a v k : Nat} : trkB p val a v k = true ↔ Trk p val a (v, k) := by unfold trkB; simp
end Go.Proofs.Ytdnhinkjmjpnnaa

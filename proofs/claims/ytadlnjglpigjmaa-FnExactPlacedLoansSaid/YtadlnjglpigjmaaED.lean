/- Plain laws: points that are still to be met, from which sets are carried on; no program in sight. -/
import Derived.Test.YtadlnjglpigjmaaEA

namespace Go.Proofs.Ytadlnjglpigjmaa

open Go.RowKit

section

variable {L : List Pt} {I : Nat → Prop} {A : Nat → (Nat → Prop) → Nat → Prop}

/-- With a mark that a point has been met. -/
def mkA (A : Nat → (Nat → Prop) → Nat → Prop) (i : Nat) (Y : Option Nat → Prop) : Option Nat → Prop
  | none => Y none
  | some v => Y none ∧ A i (fun v => Y (some v)) v
def mkI (I : Nat → Prop) : Option Nat → Prop
  | none => True
  | some v => I v
theorem mkA_mono (hA : MonoA A) : MonoA (mkA A) := by
  intro i Y Z h b hb
  cases b with
  | none => exact h _ hb
  | some v => exact ⟨h _ hb.1, hA i _ _ (fun v => h (some v)) v hb.2⟩
theorem mk_least (hA : MonoA A) (hr : ∀ i, i < L.length → Least (FwS L (mkI I) (mkA A)) i none) (i v : Nat) : Least (FwS L (mkI I) (mkA A)) i (some v) ↔ Least (FwS L I A) i v := by
  constructor
  · intro h
    have := h (fun i b => match b with | none => True | some v => Least (FwS L I A) i v) (by
      rintro k b hs
      cases b with
      | none => trivial
      | some v =>
        refine Least.step (FwS.mono hA) ?_
        rcases hs with ⟨h1, h2⟩ | ⟨j, hj, hk, _, ha⟩
        · exact .inl ⟨h1, h2⟩
        · exact .inr ⟨j, hj, hk, ha⟩)
    exact this
  · intro h
    refine h (fun i v => Least (FwS L (mkI I) (mkA A)) i (some v)) ?_
    rintro k v hs
    refine Least.step (FwS.mono (mkA_mono hA)) ?_
    rcases hs with ⟨h1, h2⟩ | ⟨j, hj, hk, ha⟩
    · exact .inl ⟨h1, h2⟩
    · exact .inr ⟨j, hj, hk, hr j hj, ha⟩
theorem mk_reached (hA : MonoA A) {k : Nat} (h : Rch L [0] (-1) k) : Least (FwS L (mkI I) (mkA A)) k none := by
  induction h with
  | start hm _ =>
    refine Least.step (FwS.mono (mkA_mono hA)) (.inl ⟨by simpa using hm, trivial⟩)
  | step _ hk _ ih => exact Least.step (FwS.mono (mkA_mono hA)) (.inr ⟨_, next_lt hk, hk, ih⟩)

/-- The points of W are still to be met. -/
def WlOk (L : List Pt) (I : Nat → Prop) (A : Nat → (Nat → Prop) → Nat → Prop) (X : Nat → Option Nat → Bool) (W : List Nat) : Prop :=
  (∀ i b, X i b = true → Least (FwS L (mkI I) (mkA A)) i b) ∧ (∀ b, mkI I b → X 0 b = true) ∧ (∀ i ∈ W, i < L.length ∧ X i none = true) ∧
  ∀ i, i < L.length → i ∉ W → ∀ k ∈ nextOf L i, ∀ b, mkA A i (fun b => X i b = true) b → X k b = true
/-- At the point a, whose row is R: it has been carried to the first j of what comes next. -/
def WlI (L : List Pt) (I : Nat → Prop) (A : Nat → (Nat → Prop) → Nat → Prop) (X : Nat → Option Nat → Bool) (W : List Nat) (a : Nat) (R : Option Nat → Bool) (j : Nat) : Prop :=
  (∀ i b, X i b = true → Least (FwS L (mkI I) (mkA A)) i b) ∧ (∀ b, mkI I b → X 0 b = true) ∧ (∀ i ∈ W, i < L.length ∧ X i none = true) ∧
  (∀ i, i < L.length → i ∉ W → i ≠ a → ∀ k ∈ nextOf L i, ∀ b, mkA A i (fun b => X i b = true) b → X k b = true) ∧
  (∀ b, R b = true → mkA A a (Least (FwS L (mkI I) (mkA A)) a) b) ∧
  (a ∉ W → (∀ b, mkA A a (fun b => X a b = true) b → R b = true) ∧ ∀ j' (h : j' < (nextOf L a).length), j' < j → ∀ b, R b = true → X (nextOf L a)[j'] b = true)
variable {X : Nat → Option Nat → Bool} {W : List Nat} {a j : Nat} {R : Option Nat → Bool}

theorem WlOk.enter (hA : MonoA A) (h : WlOk L I A X (a :: W)) (hR : ∀ b, R b = true ↔ mkA A a (fun b => X a b = true) b) : WlI L I A X W a R 0 := by
  obtain ⟨h1, h2, h3, h4⟩ := h
  exact ⟨h1, h2, fun i hi => h3 i (List.mem_cons_of_mem _ hi), fun i hi hn hne => h4 i hi (by simp [hn, hne]), fun b hb => mkA_mono hA a _ _ (h1 a) b ((hR b).1 hb), fun _ => ⟨fun b => (hR b).2, fun j' _ hj => absurd hj (by omega)⟩⟩
theorem WlI.same (h : WlI L I A X W a R j) (hj : j < (nextOf L a).length) (hs : ∀ b, R b = true → X (nextOf L a)[j] b = true) : WlI L I A X W a R (j + 1) := by
  obtain ⟨h1, h2, h3, h4, h5, h6⟩ := h
  refine ⟨h1, h2, h3, h4, h5, fun hn => ⟨(h6 hn).1, fun j' hj' hlt => ?_⟩⟩
  by_cases e : j' = j
  · subst e; exact hs
  · exact (h6 hn).2 j' hj' (by omega)
theorem mrg_other {β : Type} {F : Nat → β → Bool} {k i : Nat} {R : β → Bool} (h : i ≠ k) : mrg F k R i = F i := by
  funext b; unfold mrg; rw [if_neg h]
theorem WlI.change (hA : MonoA A) (hN : NextOk L) (ha : a < L.length) (h : WlI L I A X W a R j) (hj : j < (nextOf L a).length) (hR : R none = true) : WlI L I A (mrg X (nextOf L a)[j] R) (W ++ [(nextOf L a)[j]]) a R (j + 1) := by
  obtain ⟨h1, h2, h3, h4, h5, h6⟩ := h
  have hm : (nextOf L a)[j] ∈ nextOf L a := List.getElem_mem hj
  refine ⟨fun i b hb => ?_, fun b hb => mrg_ge _ _ _ _ _ (h2 b hb), fun i hi => ?_, fun i hi hn hne k hk b hb => ?_, h5, fun hn => ?_⟩
  · rcases mrg_out hb with hb | ⟨e, hb⟩
    · exact h1 i b hb
    · rw [e]; exact Least.step (FwS.mono (mkA_mono hA)) (.inr ⟨a, ha, hm, h5 b hb⟩)
  · rcases List.mem_append.1 hi with hi | hi
    · exact ⟨(h3 i hi).1, mrg_ge _ _ _ _ _ (h3 i hi).2⟩
    · obtain rfl : i = (nextOf L a)[j] := by simpa using hi
      exact ⟨(hN a ha).2 _ hm, mrg_at _ _ _ _ hR⟩
  · rw [List.mem_append, not_or] at hn
    have e : i ≠ (nextOf L a)[j] := fun e => hn.2 (by rw [e]; simp)
    rw [mrg_other e] at hb
    exact mrg_ge _ _ _ _ _ (h4 i hi hn.1 hne k hk b hb)
  · rw [List.mem_append, not_or] at hn
    have e : a ≠ (nextOf L a)[j] := fun e => hn.2 (by rw [← e]; simp)
    rw [mrg_other e]
    refine ⟨(h6 hn.1).1, fun j' hj' hlt b hb => ?_⟩
    by_cases e2 : j' = j
    · subst e2; exact mrg_at _ _ _ _ hb
    · exact mrg_ge _ _ _ _ _ ((h6 hn.1).2 j' hj' (by omega) b hb)
theorem WlI.exit (h : WlI L I A X W a R j) (hj : (nextOf L a).length ≤ j) : WlOk L I A X W := by
  obtain ⟨h1, h2, h3, h4, h5, h6⟩ := h
  refine ⟨h1, h2, h3, fun i hi hn k hk b hb => ?_⟩
  by_cases e : i = a
  · subst e
    obtain ⟨j', hj', rfl⟩ := List.getElem_of_mem hk
    exact (h6 hn).2 j' hj' (by omega) b ((h6 hn).1 b hb)
  · exact h4 i hi hn e k hk b hb
theorem WlOk.done (h : WlOk L I A X []) (i : Nat) (b : Option Nat) : X i b = true ↔ Least (FwS L (mkI I) (mkA A)) i b := by
  obtain ⟨h1, h2, h3, h4⟩ := h
  refine Least.done h1 ?_ i b
  rintro k b (⟨rfl, hb⟩ | ⟨i, hi, hk, hb⟩)
  · exact h2 b hb
  · exact h4 i hi (by simp) k hk b hb
end

/-! ### Rows of marks as such a table -/

/-- What the row of a point says: all: it tells what there always is, so what it lacks counts. -/
def flT (all : Bool) (N : Nat) (G : Nat → Bool) (v : Nat) : Bool := decide (v < N) && (G v != all)
def xT (all : Bool) (N : Nat) (s : Nat → Bool) (G : Nat → Nat → Bool) (i : Nat) : Option Nat → Bool
  | none => s i
  | some v => s i && flT all N (G i) v
def rT (all : Bool) (N : Nat) (G : Nat → Bool) : Option Nat → Bool
  | none => true
  | some v => flT all N G v
/-- The row behind a point. -/
def aftR (T : List Int) (L : List Pt) (i : Nat) (G : Nat → Bool) (v : Nat) : Bool := stL L i v || (G v && !tkL T L i v)
def fwA (all : Bool) (T : List Int) (L : List Pt) : Nat → (Nat → Prop) → Nat → Prop := if all = true then unA T L else mayA T L
def fwI (all : Bool) (N : Nat) : Nat → Prop := if all = true then unI N (fun _ => false) else noneI
theorem fwA_mono (all : Bool) (T : List Int) (L : List Pt) : MonoA (fwA all T L) := by
  cases all
  · exact mayA_mono T L
  · exact unA_mono T L
theorem st_lt {p : Pr} (hv : validP p = true) {i v : Nat} (hi : i < (pts p).length) (h : stL (pts p) i v = true) : v < p.types.length := by
  have := set_in hv hi
  rw [← ptAt_get hi] at this
  unfold stL setsB at h
  rw [decide_eq_true_eq] at h
  omega
theorem aftR_row {p : Pr} (hv : validP p = true) (all : Bool) {i : Nat} (hi : i < (pts p).length) {s : Nat → Bool} {G : Nat → Nat → Bool} (hs : s i = true) (b : Option Nat) :
    rT all p.types.length (aftR p.types (pts p) i (G i)) b = true ↔ mkA (fwA all p.types (pts p)) i (fun b => xT all p.types.length s G i b = true) b := by
  cases b with
  | none => exact ⟨fun _ => hs, fun _ => rfl⟩
  | some v =>
    show flT all p.types.length (aftR p.types (pts p) i (G i)) v = true ↔ (s i = true ∧ _)
    simp only [hs, true_and]
    cases all with
    | false =>
      show (decide (v < p.types.length) && ((stL (pts p) i v || (G i v && !tkL p.types (pts p) i v)) != false)) = true ↔ ((s i && (decide (v < p.types.length) && (G i v != false))) = true ∧ tkL p.types (pts p) i v = false) ∨ stL (pts p) i v = true
      rw [hs]
      have hst := st_lt hv hi (v := v)
      by_cases hl : v < p.types.length
      · rw [decide_eq_true hl]
        cases stL (pts p) i v <;> cases tkL p.types (pts p) i v <;> cases G i v <;> simp
      · rw [decide_eq_false hl]
        cases h : stL (pts p) i v with
        | true => exact absurd (hst h) hl
        | false => simp
    | true =>
      show (decide (v < p.types.length) && ((stL (pts p) i v || (G i v && !tkL p.types (pts p) i v)) != true)) = true ↔ v < p.types.length ∧ ((s i && (decide (v < p.types.length) && (G i v != true))) = true ∨ tkL p.types (pts p) i v = true) ∧ stL (pts p) i v = false
      rw [hs]
      by_cases hl : v < p.types.length
      · rw [decide_eq_true hl]
        cases stL (pts p) i v <;> cases tkL p.types (pts p) i v <;> cases G i v <;> simp [hl]
      · rw [decide_eq_false hl]
        simp [hl]
/-- Two rows joined. -/
def joinR (all : Bool) (G H : Nat → Bool) (v : Nat) : Bool := if all = true then G v && H v else G v || H v
def updSeen (s : Nat → Bool) (k : Nat) : Nat → Bool := fun i => if i = k then true else s i
theorem xT_new (all : Bool) (N : Nat) {s : Nat → Bool} {G : Nat → Nat → Bool} {k : Nat} {H : Nat → Bool} (hs : s k = false) : xT all N (updSeen s k) (updF G k H) = mrg (xT all N s G) k (rT all N H) := by
  funext i b
  unfold mrg
  by_cases e : i = k
  · subst e
    rw [if_pos rfl]
    cases b with
    | none => simp [xT, updSeen, rT]
    | some v => simp only [xT, updSeen, rT, hs, if_true, Bool.true_and, Bool.false_and, Bool.false_or]; unfold flT updF; rw [if_pos rfl]
  · rw [if_neg e]
    cases b with
    | none => simp [xT, updSeen, e]
    | some v => simp only [xT, updSeen, if_neg e]; unfold flT updF; rw [if_neg e]
theorem xT_join (all : Bool) (N : Nat) {s : Nat → Bool} {G : Nat → Nat → Bool} {k : Nat} {H : Nat → Bool} (hs : s k = true) : xT all N (updSeen s k) (updF G k (joinR all (G k) H)) = mrg (xT all N s G) k (rT all N H) := by
  funext i b
  unfold mrg
  by_cases e : i = k
  · subst e
    rw [if_pos rfl]
    cases b with
    | none => simp [xT, updSeen, rT]
    | some v =>
      simp only [xT, updSeen, rT, hs, if_true, Bool.true_and]
      unfold flT updF joinR
      rw [if_pos rfl]
      cases all <;> cases decide (v < N) <;> cases G i v <;> cases H v <;> rfl
  · rw [if_neg e]
    cases b with
    | none => simp [xT, updSeen, e]
    | some v => simp only [xT, updSeen, if_neg e]; unfold flT updF; rw [if_neg e]
theorem xT_same {all : Bool} {N : Nat} {s : Nat → Bool} {G : Nat → Nat → Bool} {k : Nat} {H : Nat → Bool} (hs : s k = true) (h : ∀ v, v < N → G k v = joinR all (G k) H v) (b : Option Nat) (hb : rT all N H b = true) : xT all N s G k b = true := by
  cases b with
  | none => exact hs
  | some v =>
    simp only [rT, flT, Bool.and_eq_true, decide_eq_true_eq] at hb
    have h1 := h v hb.1
    simp only [xT, hs, flT, Bool.true_and, decide_eq_true hb.1]
    have h2 := hb.2
    unfold joinR at h1
    revert h1 h2
    cases all <;> cases G k v <;> cases H v <;> simp
theorem xT_less {all : Bool} {N : Nat} {s : Nat → Bool} {G : Nat → Nat → Bool} {k : Nat} {H : Nat → Bool} {v : Nat} (hv : v < N) (h : G k v ≠ joinR all (G k) H v) : rT all N H (some v) = true ∧ xT all N s G k (some v) = false := by
  simp only [rT, xT, flT, decide_eq_true hv, Bool.true_and]
  unfold joinR at h
  revert h
  cases all <;> cases G k v <;> cases H v <;> simp
def boxO (n N : Nat) : List (Nat × Option Nat) := (List.range n).flatMap fun i => (i, none) :: (List.range N).map fun v => (i, some v)
theorem boxO_none {n N i : Nat} (hi : i < n) : (i, none) ∈ boxO n N := by
  unfold boxO
  rw [List.mem_flatMap]
  exact ⟨i, List.mem_range.2 hi, by simp⟩
theorem boxO_some {n N i v : Nat} (hi : i < n) (hv : v < N) : (i, some v) ∈ boxO n N := by
  unfold boxO
  rw [List.mem_flatMap]
  exact ⟨i, List.mem_range.2 hi, by simp [hv]⟩
/-- How much is still to be done. -/
def leftW (B : List (Nat × Option Nat)) (X : Nat → Option Nat → Bool) (W : List Nat) : Nat := W.length + (B.length - cntG B X)
theorem leftW_pop (B : List (Nat × Option Nat)) (X : Nat → Option Nat → Bool) (a : Nat) (W : List Nat) : leftW B X W < leftW B X (a :: W) := by
  unfold leftW; simp
theorem leftW_push {B : List (Nat × Option Nat)} {X : Nat → Option Nat → Bool} {W : List Nat} {k : Nat} {R : Option Nat → Bool} {b : Option Nat} (hB : (k, b) ∈ B) (hb : R b = true) (hn : X k b = false) (x : Nat) : leftW B (mrg X k R) (W ++ [x]) ≤ leftW B X W := by
  have h := cntG_lt (fun i b hb => mrg_ge X k R i b hb) hB hn (mrg_at _ _ _ _ hb)
  have := cntG_le B (mrg X k R)
  unfold leftW
  simp
  omega
open Classical in

/-- What a variable may have, what it may lack. -/
noncomputable def mayB (p : Pr) (i v : Nat) : Bool := decide (Least (FwS (pts p) noneI (mayA p.types (pts p))) i v)
open Classical in

noncomputable def unB (p : Pr) (g : Nat → Bool) (i v : Nat) : Bool := decide (Least (FwS (pts p) (unI p.types.length g) (unA p.types (pts p))) i v)
theorem mayB_iff {p : Pr} {i v : Nat} : mayB p i v = true ↔ Least (FwS (pts p) noneI (mayA p.types (pts p))) i v := by unfold mayB; simp
theorem unB_iff {p : Pr} {g : Nat → Bool} {i v : Nat} : unB p g i v = true ↔ Least (FwS (pts p) (unI p.types.length g) (unA p.types (pts p))) i v := by unfold unB; simp
theorem mayB_lt {p : Pr} (hv : validP p = true) {i v : Nat} (h : mayB p i v = true) : v < p.types.length := by
  have := (mayB_iff.1 h) (fun _ v => v < p.types.length) (by
    rintro k v (⟨_, hb⟩ | ⟨j, hj, hn, hb⟩)
    · exact hb.elim
    · rcases hb with ⟨hb, _⟩ | hb
      · exact hb
      · exact st_lt hv hj hb)
  exact this
theorem unB_lt {p : Pr} {g : Nat → Bool} {i v : Nat} (h : unB p g i v = true) : v < p.types.length := by
  have := (unB_iff.1 h) (fun _ v => v < p.types.length) (by
    rintro k v (⟨_, hb⟩ | ⟨j, hj, hn, hb⟩)
    · exact hb.1
    · exact hb.1)
  exact this
/-- What the rows say when nothing is left to be met. -/
theorem xT_done {p : Pr} {all : Bool} {s : Nat → Bool} {G : Nat → Nat → Bool} (h : WlOk (pts p) (fwI all p.types.length) (fwA all p.types (pts p)) (xT all p.types.length s G) []) {i : Nat} (hi : i < (pts p).length) :
    s i = true ∧ ∀ v, v < p.types.length → G i v = if all = true then !unB p (fun _ => false) i v else mayB p i v := by
  have hr : ∀ i, i < (pts p).length → Least (FwS (pts p) (mkI (fwI all p.types.length)) (mkA (fwA all p.types (pts p)))) i none := fun i hi => mk_reached (fwA_mono _ _ _) (all_reached p i hi)
  have hs : s i = true := (h.done i none).2 (hr i hi)
  refine ⟨hs, fun v hv => ?_⟩
  have h1 := (h.done i (some v)).trans (mk_least (fwA_mono _ _ _) hr i v)
  simp only [xT, hs, flT, Bool.true_and, decide_eq_true hv] at h1
  cases all with
  | false =>
    have h2 : (G i v != false) = true ↔ Least (FwS (pts p) noneI (mayA p.types (pts p))) i v := h1
    rw [if_neg (by simp), Bool.eq_iff_iff, mayB_iff, ← h2]
    cases G i v <;> simp
  | true =>
    have h2 : (G i v != true) = true ↔ Least (FwS (pts p) (unI p.types.length fun _ => false) (unA p.types (pts p))) i v := h1
    rw [if_pos rfl, Bool.eq_iff_iff, Bool.not_eq_true', ← Bool.not_eq_true, unB_iff, ← h2]
    cases G i v <;> simp
theorem usL_hi' {T : List Int} {L : List Pt} {i v : Nat} (h : T.length ≤ v) : usL T L i v = false := useB_out h
/-- The bits of a word that has none from n on. -/
theorem coll_bits' {W n : Nat} {f : Nat → Bool} (h : ∀ v, W.testBit v = f v) (hf : ∀ v, n ≤ v → f v = false) (hn : n ≤ 6) : coll W.testBit 6 = coll f n := by
  rw [coll_congr (F := W.testBit) (G := f) (fun k _ => h k), coll_up hf 6 hn]
theorem valid_posE {p : Pr} (h : 0 < (ptsOf p).length) : validP p = true := by
  cases hv : validP p with
  | true => rfl
  | false => unfold ptsOf at h; rw [hv] at h; simp at h
theorem graph_oneE {p : Pr} {a : Int} : graphOk p [a] = (decide (0 ≤ a) && decide (a < (ptsOf p).length)) := by
  unfold graphOk ptsOf
  cases hv : validP p with
  | true =>
    simp only [within, List.all_cons, List.all_nil, Bool.and_true, Bool.true_and, if_pos]
    congr 1
    apply decide_eq_decide.2
    omega
  | false =>
    rw [Bool.false_and, if_neg (by simp)]
    symm
    rw [Bool.and_eq_false_iff, decide_eq_false_iff_not, decide_eq_false_iff_not]
    simp only [List.length_nil]
    omega
theorem seen0 {i : Nat} (h : updSeen (fun _ => false) 0 i = true) : i = 0 := by
  unfold updSeen at h
  split at h
  · assumption
  · cases h
theorem xT_start (all : Bool) (N : Nat) {T : List Int} {L : List Pt} (hL : 0 < L.length) : WlOk L (fwI all N) (fwA all T L) (xT all N (updSeen (fun _ => false) 0) (updF (fun _ _ => false) 0 (fun _ => false))) [0] := by
  refine ⟨fun i b hb => ?_, fun b hb => ?_, fun i hi => ?_, fun i hi hn k hk b hb => ?_⟩
  · have h0 : i = 0 := by
      cases b with
      | none => exact seen0 (show updSeen (fun _ => false) 0 i = true from hb)
      | some v => unfold xT at hb; rw [Bool.and_eq_true] at hb; exact seen0 hb.1
    subst h0
    refine Least.step (FwS.mono (mkA_mono (fwA_mono all T L))) (.inl ⟨rfl, ?_⟩)
    cases b with
    | none => trivial
    | some v =>
      have h2 : flT all N (updF (fun _ _ => false) 0 (fun _ => false) 0) v = true := by unfold xT at hb; rw [Bool.and_eq_true] at hb; exact hb.2
      unfold flT updF at h2
      rw [if_pos rfl, Bool.and_eq_true, decide_eq_true_eq] at h2
      show fwI all N v
      unfold fwI
      cases all with
      | false => simp at h2
      | true => rw [if_pos rfl]; exact ⟨h2.1, rfl⟩
  · cases b with
    | none => rfl
    | some v =>
      show (updSeen (fun _ => false) 0 0 && flT all N (updF (fun _ _ => false) 0 (fun _ => false) 0) v) = true
      have hb' : fwI all N v := hb
      unfold fwI at hb'
      unfold flT updF
      rw [if_pos rfl]
      cases all with
      | false => exact hb'.elim
      | true =>
        rw [if_pos rfl] at hb'
        rw [decide_eq_true hb'.1]; rfl
  · obtain rfl : i = 0 := by simpa using hi
    exact ⟨hL, rfl⟩
  · exfalso
    have h0 : i ≠ 0 := by simpa using hn
    have hs : xT all N (updSeen (fun _ => false) 0) (updF (fun _ _ => false) 0 (fun _ => false)) i none = true := by
      cases b with
      | none => exact hb
      | some v => exact hb.1
    unfold xT updSeen at hs
    rw [if_neg h0] at hs; cases hs
theorem box_len' (N : Nat) : ∀ l : List Nat, (l.flatMap fun i => (i, (none : Option Nat)) :: (List.range N).map fun v => (i, some v)).length = l.length * (N + 1)
  | [] => by simp
  | a :: l => by
    rw [List.flatMap_cons, List.length_append, box_len' N l, List.length_cons, List.length_cons, List.length_map, List.length_range, Nat.add_mul]
    omega
theorem box_len (n N : Nat) : (boxO n N).length = n * (N + 1) := by
  unfold boxO
  rw [box_len', List.length_range]
theorem leftW_start {n N : Nat} (X : Nat → Option Nat → Bool) (a : Nat) (hn : n ≤ 61) (hN : N ≤ 6) : leftW (boxO n N) X [a] ≤ 500 := by
  unfold leftW
  have h := box_len n N
  have : n * (N + 1) ≤ 61 * 7 := Nat.mul_le_mul hn (by omega)
  simp only [List.length_cons, List.length_nil]
  omega
end Go.Proofs.Ytadlnjglpigjmaa

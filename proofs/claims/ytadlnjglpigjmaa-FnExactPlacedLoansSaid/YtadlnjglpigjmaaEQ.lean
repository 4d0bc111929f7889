/- What is known of loans before all points: plain laws of both parts, and the walk of l4Flow of the reference. -/
import Derived.Test.YtadlnjglpigjmaaEP

import Derived.Deep.LoopGhost

import Derived.Deep.RegionWith

import Derived.Deep.RegionHeld3

namespace Go.Proofs.Ytadlnjglpigjmaa

open Go.RowKit

/-! ### Both parts as one table -/

def fpA (T : List Int) (L : List Pt) (i : Nat) (Y : (Nat × Nat) ⊕ Nat → Prop) : (Nat × Nat) ⊕ Nat → Prop
  | .inl b => trkA T L (loanV T L) i (fun b => Y (.inl b)) b
  | .inr k => plA T L i (fun k => Y (.inr k)) k
theorem fpA_mono (T : List Int) (L : List Pt) : MonoA (fpA T L) := by
  intro i Y Z h b hb
  cases b with
  | inl b => exact trkA_mono (loanV_mono T L) i _ _ (fun b => h (.inl b)) b hb
  | inr k => exact plA_mono T L i _ _ (fun k => h (.inr k)) k hb
def nothing {β : Type} (_ : β) : Prop := False
theorem fp_inl {T : List Int} {L : List Pt} {i : Nat} {b : Nat × Nat} : Least (FwS L nothing (fpA T L)) i (.inl b) ↔ Least (FwS L (fun _ => False) (trkA T L (loanV T L))) i b := by
  constructor
  · intro h
    have := h (fun i b => match b with | .inl b => Least (FwS L (fun _ => False) (trkA T L (loanV T L))) i b | .inr _ => True) (by
      rintro k b hs
      cases b with
      | inr _ => trivial
      | inl b =>
        refine Least.step (FwS.mono (trkA_mono (loanV_mono T L))) ?_
        rcases hs with ⟨_, h⟩ | ⟨j, hj, hk, ha⟩
        · exact h.elim
        · exact .inr ⟨j, hj, hk, ha⟩)
    exact this
  · intro h
    refine h (fun i b => Least (FwS L nothing (fpA T L)) i (.inl b)) ?_
    rintro k b hs
    refine Least.step (FwS.mono (fpA_mono T L)) ?_
    rcases hs with ⟨_, h⟩ | ⟨j, hj, hk, ha⟩
    · exact h.elim
    · exact .inr ⟨j, hj, hk, ha⟩
theorem fp_inr {T : List Int} {L : List Pt} {i k : Nat} : Least (FwS L nothing (fpA T L)) i (.inr k) ↔ Least (FwS L (fun _ => False) (plA T L)) i k := by
  constructor
  · intro h
    have := h (fun i b => match b with | .inr b => Least (FwS L (fun _ => False) (plA T L)) i b | .inl _ => True) (by
      rintro k b hs
      cases b with
      | inl _ => trivial
      | inr b =>
        refine Least.step (FwS.mono (plA_mono T L)) ?_
        rcases hs with ⟨_, h⟩ | ⟨j, hj, hk, ha⟩
        · exact h.elim
        · exact .inr ⟨j, hj, hk, ha⟩)
    exact this
  · intro h
    refine h (fun i b => Least (FwS L nothing (fpA T L)) i (.inr b)) ?_
    rintro k b hs
    refine Least.step (FwS.mono (fpA_mono T L)) ?_
    rcases hs with ⟨_, h⟩ | ⟨j, hj, hk, ha⟩
    · exact h.elim
    · exact .inr ⟨j, hj, hk, ha⟩
def tS (F : Nat → Nat → Nat → Bool) (P : Nat → Nat → Bool) (i : Nat) : (Nat × Nat) ⊕ Nat → Bool
  | .inl b => F i b.1 b.2
  | .inr k => P i k
def rS (m n : Nat) (F : Nat → Nat → Bool) (P : Nat → Bool) : (Nat × Nat) ⊕ Nat → Bool
  | .inl b => decide (b.1 < m) && (decide (b.2 < n) && F b.1 b.2)
  | .inr k => decide (k < n) && P k
def mF (m n : Nat) (F : Nat → Nat → Nat → Bool) (k : Nat) (G : Nat → Nat → Bool) : Nat → Nat → Nat → Bool := fun i v u => if i = k then F i v u || rS m n G (fun _ => false) (.inl (v, u)) else F i v u
def mP (m n : Nat) (P : Nat → Nat → Bool) (k : Nat) (Q : Nat → Bool) : Nat → Nat → Bool := fun i u => if i = k then P i u || rS m n (fun _ _ => false) Q (.inr u) else P i u
theorem tS_mrg (m n : Nat) (F : Nat → Nat → Nat → Bool) (P : Nat → Nat → Bool) (k : Nat) (G : Nat → Nat → Bool) (Q : Nat → Bool) : tS (mF m n F k G) (mP m n P k Q) = mrg (tS F P) k (rS m n G Q) := by
  funext i b
  cases b with
  | inl b => show (if i = k then _ else _) = (if i = k then _ else _); rfl
  | inr u => show (if i = k then _ else _) = (if i = k then _ else _); rfl
def boxS (n m : Nat) : List (Nat × ((Nat × Nat) ⊕ Nat)) := (List.range n).flatMap fun i => (List.range n).flatMap fun k => (i, .inr k) :: (List.range m).map fun v => (i, .inl (v, k))
theorem boxS_inr {n m i k : Nat} (hi : i < n) (hk : k < n) : (i, .inr k) ∈ boxS n m := by
  unfold boxS
  rw [List.mem_flatMap]
  refine ⟨i, List.mem_range.2 hi, ?_⟩
  rw [List.mem_flatMap]
  exact ⟨k, List.mem_range.2 hk, by simp⟩
theorem boxS_inl {n m i v k : Nat} (hi : i < n) (hv : v < m) (hk : k < n) : (i, .inl (v, k)) ∈ boxS n m := by
  unfold boxS
  rw [List.mem_flatMap]
  refine ⟨i, List.mem_range.2 hi, ?_⟩
  rw [List.mem_flatMap]
  exact ⟨k, List.mem_range.2 hk, by simp [hv]⟩
def RangeS (m n : Nat) (F : Nat → Nat → Nat → Bool) (P : Nat → Nat → Bool) : Prop := (∀ i v k, F i v k = true → v < m ∧ k < n) ∧ ∀ i k, P i k = true → k < n
theorem RangeS.mrg {m n k : Nat} {F : Nat → Nat → Nat → Bool} {P : Nat → Nat → Bool} {G : Nat → Nat → Bool} {Q : Nat → Bool} (h : RangeS m n F P) : RangeS m n (mF m n F k G) (mP m n P k Q) := by
  refine ⟨fun i v u hu => ?_, fun i u hu => ?_⟩
  · unfold mF at hu
    split at hu
    · rw [Bool.or_eq_true] at hu
      rcases hu with hu | hu
      · exact h.1 i v u hu
      · simp only [rS, Bool.and_eq_true, decide_eq_true_eq] at hu
        exact ⟨hu.1, hu.2.1⟩
    · exact h.1 i v u hu
  · unfold mP at hu
    split at hu
    · rw [Bool.or_eq_true] at hu
      rcases hu with hu | hu
      · exact h.2 i u hu
      · simp only [rS, Bool.and_eq_true, decide_eq_true_eq] at hu
        exact hu.1
    · exact h.2 i u hu
theorem fp_row {T : List Int} {L : List Pt} {a m n : Nat} {F : Nat → Nat → Nat → Bool} {P : Nat → Nat → Bool} (hn : L.length = n) (ha : a < n) (hr : RangeS m n F P) (hst : setOf (ptAt L a).op (ptAt L a).x < m) (b : (Nat × Nat) ⊕ Nat) :
    rS m n (aftF T L a (F a)) (aftP T L a (P a)) b = true ↔ fpA T L a (fun b => tS F P a b = true) b := by
  cases b with
  | inl b =>
    obtain ⟨v, k⟩ := b
    show (decide (v < m) && (decide (k < n) && aftF T L a (F a) v k)) = true ↔ (if setOf (ptAt L a).op (ptAt L a).x = (v : Int) then ((lnB L a = true ∧ k = a) ∨ (cbB T L a = true ∧ F a (ptAt L a).y.toNat k = true)) else (tkL T L a v = false ∧ F a v k = true))
    unfold aftF
    by_cases e : setOf (ptAt L a).op (ptAt L a).x = (v : Int)
    · rw [if_pos e, if_pos e]
      have hv : v < m := by omega
      rw [decide_eq_true hv, Bool.true_and]
      unfold valE
      rw [Bool.and_eq_true, decide_eq_true_eq, Bool.or_eq_true, Bool.and_eq_true, Bool.and_eq_true, decide_eq_true_eq]
      constructor
      · exact fun h => h.2
      · intro h
        refine ⟨?_, h⟩
        rcases h with ⟨_, rfl⟩ | ⟨_, h⟩
        · exact ha
        · exact (hr.1 a _ k h).2
    · rw [if_neg e, if_neg e]
      cases ht : tkL T L a v with
      | true => simp
      | false =>
        simp only [Bool.false_eq_true, if_false, true_and, Bool.and_eq_true, decide_eq_true_eq]
        exact ⟨fun h => h.2.2, fun h => ⟨(hr.1 a v k h).1, (hr.1 a v k h).2, h⟩⟩
  | inr k =>
    show (decide (k < n) && aftP T L a (P a) k) = true ↔ ((lnB L a = true ∧ k = a) ∨ (P a k = true ∧ (k < L.length → lostB T L a k = false)))
    unfold aftP
    rw [hn, Bool.and_eq_true, decide_eq_true_eq, Bool.or_eq_true, Bool.and_eq_true, Bool.and_eq_true, decide_eq_true_eq, Bool.not_eq_true']
    constructor
    · rintro ⟨hk, h | h⟩
      · exact .inl h
      · exact .inr ⟨h.1, fun _ => h.2⟩
    · rintro (⟨h1, rfl⟩ | ⟨h1, h2⟩)
      · exact ⟨ha, .inl ⟨h1, rfl⟩⟩
      · have hk := hr.2 a k h1
        exact ⟨hk, .inr ⟨h1, h2 hk⟩⟩
theorem wi_same {m n k : Nat} {F : Nat → Nat → Nat → Bool} {P : Nat → Nat → Bool} {G : Nat → Nat → Bool} {Q : Nat → Bool} (h : wiB m n G Q (F k) (P k) = true) (b : (Nat × Nat) ⊕ Nat) (hb : rS m n G Q b = true) : tS F P k b = true := by
  have h1 := wiB_iff.1 h
  cases b with
  | inl b =>
    simp only [rS, Bool.and_eq_true, decide_eq_true_eq] at hb
    exact (h1 b.2 hb.2.1).2 b.1 hb.1 hb.2.2
  | inr u =>
    simp only [rS, Bool.and_eq_true, decide_eq_true_eq] at hb
    exact (h1 u hb.1).1 hb.2
theorem wi_less {m n k : Nat} {F : Nat → Nat → Nat → Bool} {P : Nat → Nat → Bool} {G : Nat → Nat → Bool} {Q : Nat → Bool} (hk : k < n) (h : wiB m n G Q (F k) (P k) = false) : ∃ b, (k, b) ∈ boxS n m ∧ rS m n G Q b = true ∧ tS F P k b = false := by
  refine Classical.byContradiction fun hn => ?_
  have : wiB m n G Q (F k) (P k) = true := wiB_iff.2 fun i hi => by
    refine ⟨fun hq => ?_, fun v hv hg => ?_⟩
    · cases hp : P k i with
      | true => rfl
      | false => exact absurd ⟨.inr i, boxS_inr hk hi, by simp [rS, hi, hq], hp⟩ hn
    · cases hf : F k v i with
      | true => rfl
      | false => exact absurd ⟨.inl (v, i), boxS_inl hk hv hi, by simp [rS, hi, hv, hg], hf⟩ hn
  rw [h] at this; cases this

/-! ### A list of such states -/

theorem StE.lo0 {w : World} {lo m n : Nat} {fa : Option Addr} {hs : List (Nat × Nat)} {gp pc : Nat} {F : Nat → Nat → Bool} {P : Nat → Bool} (h : StE w lo m n fa hs gp pc F P) : StE w 0 m n fa hs gp pc F P := by
  obtain ⟨h1, h2, h3, h4, h5, h6, h7, h8⟩ := h
  exact ⟨h1, h2, fun j hj => ⟨Nat.zero_le _, (h3 j hj).2⟩, Nat.zero_le _, h5, h6, h7, fun b hb => ⟨Nat.zero_le _, (h8 b hb).2⟩⟩
/-- One row of a state is written. -/
theorem StE.putF {w w' : World} {lo m n v : Nat} {fa : Option Addr} {hs : List (Nat × Nat)} {gp pc : Nat} {F F' : Nat → Nat → Bool} {P : Nat → Bool} (h : StE w lo m n fa hs gp pc F P) (hv : v < hs.length) (hg : Gr w w' (some hs[v].1)) (hR : RowE w' hs[v].1 n hs[v].2 (F' v)) (hF : ∀ u, u ≠ v → F' u = F u) : StE w' lo m n fa hs gp pc F' P := by
  obtain ⟨h1, h2, h3, h4, h5, h6, h7, h8⟩ := h
  have hrv := (h3 v hv).2
  have hf : ∀ b, ob fa = some b → some hs[v].1 ≠ some b := fun b hb e => by
    obtain ⟨_, cs, hc⟩ := h8 b hb
    exact hrv.off' hc (by decide) (by simpa using e.symm)
  refine ⟨h1, h2.off hg hf, fun j hj => ⟨(h3 j hj).1, ?_⟩, h4, h5.gr hg (fun e => h6 _ (List.getElem_mem hv) (by simpa using e)), h6, h7, fun b hb => ⟨(h8 b hb).1, ?_⟩⟩
  · by_cases e : j = v
    · subst e; exact hR
    · rw [hF j e]
      refine (h3 j hj).2.gr hg (fun e2 => ?_)
      have hp := List.nodup_iff_pairwise_ne.1 h7
      rw [List.pairwise_iff_getElem] at hp
      have e3 : hs[v].1 = hs[j].1 := by simpa using e2
      rcases Nat.lt_or_ge v j with hlt | hge
      · exact hp v j (by simpa using hv) (by simpa using hj) hlt (by simpa using e3)
      · exact hp j v (by simpa using hj) (by simpa using hv) (by omega) (by simpa using e3.symm)
  · obtain ⟨_, cs, hc⟩ := h8 b hb
    exact ⟨cs, by rw [hg.block b (lt_of_block hc) (fun e => hf b hb e.symm)]; exact hc⟩
def Tab4 (w : World) (ao : Option Addr) (A : Nat → Option Addr) (C : Nat → Nat) (HS : Nat → List (Nat × Nat)) (GP PC : Nat → Nat) (n m : Nat) (F : Nat → Nat → Nat → Bool) (P : Nat → Nat → Bool) : Prop :=
  RowsAt 2 w Any ((List.range n).map fun i => [.slice (A i) m (C i), .slice (some ⟨GP i, 0, none⟩) n (PC i)]) ao ∧ (∀ b, ob ao = some b → ∃ cs, w.heap[b]? = some (.cells cs 91 (0, 0))) ∧ ∀ i, i < n → StE w 0 m n (A i) (HS i) (GP i) (PC i) (F i) (P i)
/-- The rows of a state. -/
def rowsO (HS : Nat → List (Nat × Nat)) (GP : Nat → Nat) (i : Nat) : List Nat := GP i :: (HS i).map Prod.fst
def SepS (HS : Nat → List (Nat × Nat)) (GP : Nat → Nat) (n : Nat) : Prop := ∀ i j, i < n → j < n → i ≠ j → ∀ g ∈ rowsO HS GP i, g ∉ rowsO HS GP j
theorem Tab4.gr {w w' : World} {ao : Option Addr} {A : Nat → Option Addr} {C : Nat → Nat} {HS : Nat → List (Nat × Nat)} {GP PC : Nat → Nat} {n m : Nat} {F : Nat → Nat → Nat → Bool} {P : Nat → Nat → Bool} (h : Tab4 w ao A C HS GP PC n m F P) (hg : Gr w w' none) : Tab4 w' ao A C HS GP PC n m F P :=
  ⟨h.1.gr0 hg, fun b hb => by obtain ⟨cs, hc⟩ := h.2.1 b hb; exact ⟨cs, by rw [hg.block b (lt_of_block hc) (by simp)]; exact hc⟩, fun i hi => (h.2.2 i hi).gr0 hg⟩
theorem Tab4.cell {w : World} {ao : Option Addr} {A : Nat → Option Addr} {C : Nat → Nat} {HS : Nat → List (Nat × Nat)} {GP PC : Nat → Nat} {n m : Nat} {F : Nat → Nat → Nat → Bool} {P : Nat → Nat → Bool} (h : Tab4 w ao A C HS GP PC n m F P) {i : Nat} (hi : i < n) :
    ∃ b off, ao = some ⟨b, off, none⟩ ∧ w.cell? ⟨b, off + i * 2, none⟩ = some (.slice (A i) m (C i)) ∧ w.cell? ⟨b, off + i * 2 + 1, none⟩ = some (.slice (some ⟨GP i, 0, none⟩) n (PC i)) := by
  obtain ⟨b, off, e, -, hc⟩ := h.1 i (by simpa using hi)
  refine ⟨b, off, e, ?_, ?_⟩
  · have := hc 0 (.slice (A i) m (C i)) (by simp)
    simpa using this
  · have := hc 1 (.slice (some ⟨GP i, 0, none⟩) n (PC i)) (by simp)
    simpa using this
/-- One state is written in one of its rows. -/
theorem Tab4.put {w w' : World} {ao : Option Addr} {A : Nat → Option Addr} {C : Nat → Nat} {HS : Nat → List (Nat × Nat)} {GP PC : Nat → Nat} {n m k g : Nat} {F F' : Nat → Nat → Nat → Bool} {P P' : Nat → Nat → Bool} (h : Tab4 w ao A C HS GP PC n m F P) (hs : SepS HS GP n) (hk : k < n) (hgm : g ∈ rowsO HS GP k) (hg : Gr w w' (some g)) (hS : StE w' 0 m n (A k) (HS k) (GP k) (PC k) (F' k) (P' k)) (hF : ∀ i, i ≠ k → F' i = F i) (hP : ∀ i, i ≠ k → P' i = P i) : Tab4 w' ao A C HS GP PC n m F' P' := by
  have hrow : ∃ c G, RowE w g n c G := by
    have := h.2.2 k hk
    rcases List.mem_cons.1 hgm with rfl | hm
    · exact ⟨_, _, this.2.2.2.2.1⟩
    · obtain ⟨x, hx, rfl⟩ := List.mem_map.1 hm
      obtain ⟨j, hj, rfl⟩ := List.getElem_of_mem hx
      exact ⟨_, _, (this.2.2.1 j hj).2⟩
  obtain ⟨cg, G, hrow⟩ := hrow
  have hao : ∀ b, ob ao = some b → some g ≠ some b := fun b hb e => by
    obtain ⟨cs, hc⟩ := h.2.1 b hb
    exact hrow.off' hc (by decide) (by simpa using e.symm)
  refine ⟨h.1.off hg hao, fun b hb => ?_, fun i hi => ?_⟩
  · obtain ⟨cs, hc⟩ := h.2.1 b hb
    exact ⟨cs, by rw [hg.block b (lt_of_block hc) (fun e => hao b hb e.symm)]; exact hc⟩
  · by_cases e : i = k
    · subst e; exact hS
    · rw [hF i e, hP i e]
      have hsi := h.2.2 i hi
      have hoff := hs k i hk hi (fun h => e h.symm) g hgm
      refine hsi.gr hg (fun b hb e2 => ?_) (fun x hx e2 => ?_) (fun e2 => ?_)
      · obtain ⟨_, cs, hc⟩ := hsi.2.2.2.2.2.2.2 b hb
        exact hrow.off' hc (by decide) (by simpa using e2.symm)
      · apply hoff
        have : g = x.1 := by simpa using e2
        rw [this]
        exact List.mem_cons_of_mem _ (List.mem_map_of_mem hx)
      · apply hoff
        have : g = GP i := by simpa using e2
        rw [this]
        exact List.mem_cons_self
theorem L4info : (Try.prog.info? 91).map (fun i => (i.zero, i.size, i.bytes)) = some (some (.agg #[.slice none 0 0, .slice none 0 0]), 2, 48) := by kernel_rfl
/-- A list of states is handed back. -/
def Flowed (p : Pr) (w : World) (e : Ending) (w' : World) : Prop :=
  ∃ (ao : Option Addr) (c : Nat) (A : Nat → Option Addr) (C : Nat → Nat) (HS : Nat → List (Nat × Nat)) (GP PC : Nat → Nat), e = .returned (.slice ao (pts p).length c) ∧ Tab4 w' ao A C HS GP PC (pts p).length p.types.length (trkB p (loanV p.types (pts p))) (plB p) ∧ Gr w w' none
end Go.Proofs.Ytadlnjglpigjmaa

/- Points that are owned: their shape for marks, and where they lie. -/
import Derived.Test.YtdnhinkjmjpnnaaFO

import Derived.Test.YtdnhinkjmjpnnaaP3

namespace Go.Proofs.Ytdnhinkjmjpnnaa

open Go.RowKit

/-- The points l lie there, in blocks D. -/
def PtsIn (w : World) (D : Nat → Prop) (l : List Pt) (a : Option Addr) : Prop :=
  ∀ i (h : i < l.length), ∃ b off an cn, a = some ⟨b, off, none⟩ ∧ D b ∧ w.cell? ⟨b, off + i * 5, none⟩ = some (.int .i64 l[i].op) ∧ w.cell? ⟨b, off + i * 5 + 1, none⟩ = some (.int .i64 l[i].x) ∧ w.cell? ⟨b, off + i * 5 + 2, none⟩ = some (.int .i64 l[i].y) ∧ w.cell? ⟨b, off + i * 5 + 3, none⟩ = some (.int .i64 l[i].n) ∧
    w.cell? ⟨b, off + i * 5 + 4, none⟩ = some (.slice an l[i].next.length cn) ∧ InAt w (fun g _ => D g) (zs l[i].next) an ∧ l[i].next.length ≤ cn
theorem PtsIn.pts {w : World} {D : Nat → Prop} {l : List Pt} {a : Option Addr} (h : PtsIn w D l a) : PtsAt w l a := fun i hi => by
  obtain ⟨b, off, an, cn, e, _, c0, c1, c2, c3, c4, hI, hc⟩ := h i hi
  exact ⟨b, off, e, an, cn, c0, c1, c2, c3, c4, hI.any, hc⟩
theorem PtsIn.gr0 {w w' : World} {D : Nat → Prop} {l : List Pt} {a : Option Addr} (h : PtsIn w D l a) (hg : Gr w w' none) : PtsIn w' D l a := fun i hi => by
  obtain ⟨b, off, an, cn, e, d, c0, c1, c2, c3, c4, hI, hc⟩ := h i hi
  exact ⟨b, off, an, cn, e, d, hg.cell c0 (by simp), hg.cell c1 (by simp), hg.cell c2 (by simp), hg.cell c3 (by simp), hg.cell c4 (by simp), hI.gr0 hg, hc⟩
theorem PtsIn.wr {w w' : World} {D P : Nat → Prop} {l : List Pt} {a : Option Addr} (h : PtsIn w D l a) (hW : Wr P w w') (hD : ∀ b, D b → ¬ P b) : PtsIn w' D l a := fun i hi => by
  obtain ⟨b, off, an, cn, e, d, c0, c1, c2, c3, c4, hI, hc⟩ := h i hi
  exact ⟨b, off, an, cn, e, d, hW.cell c0 (hD b d), hW.cell c1 (hD b d), hW.cell c2 (hD b d), hW.cell c3 (hD b d), hW.cell c4 (hD b d), hI.wr hW (fun b _ hb => hD b hb), hc⟩
theorem PtsOwn.cells {w : World} {base : Nat} {ao : Option Addr} {cap : Nat} {l : List Pt} {nv : List Value} (hl : nv.length = l.length) (hown : w.ownsRow base 88 5 (.slice ao l.length cap) l.length (flat l nv)) {g : Nat} (hg : ao = some ⟨g, 0, none⟩) {i : Nat} (hi : i < l.length) :
    w.cell? ⟨g, 0 + i * 5, none⟩ = some (.int .i64 l[i].op) ∧ w.cell? ⟨g, 0 + i * 5 + 1, none⟩ = some (.int .i64 l[i].x) ∧ w.cell? ⟨g, 0 + i * 5 + 2, none⟩ = some (.int .i64 l[i].y) ∧ w.cell? ⟨g, 0 + i * 5 + 3, none⟩ = some (.int .i64 l[i].n) ∧ w.cell? ⟨g, 0 + i * 5 + 4, none⟩ = some (nv[i]'(by omega)) := by
  subst hg
  have hc : ∀ j, j < 5 → w.cell? ⟨g, i * 5 + j, none⟩ = (ptC l[i] (nv[i]'(by omega)))[j]? := by
    intro j hj
    rw [hown.cellAt (i * 5 + j) (by omega)]
    exact flat_get l nv i j hl hi hj
  refine ⟨?_, ?_, ?_, ?_, ?_⟩
  · simpa [ptC] using hc 0 (by omega)
  · simpa [ptC] using hc 1 (by omega)
  · simpa [ptC] using hc 2 (by omega)
  · simpa [ptC] using hc 3 (by omega)
  · simpa [ptC] using hc 4 (by omega)
theorem PtsOwn.inn {w : World} {base : Nat} {ao : Option Addr} {cap : Nat} {l : List Pt} (h : PtsOwn w base ao cap l) : PtsIn w (fun g => base ≤ g ∧ g < w.heap.size) l ao := by
  intro i hi
  obtain ⟨g, hg⟩ := h.addr (by omega)
  have hrow := h.row g (by rw [hg]; rfl)
  obtain ⟨nv, hl, hown, hn, _⟩ := h
  obtain ⟨c0, c1, c2, c3, c4⟩ := PtsOwn.cells hl hown hg hi
  rcases hn i hi with ⟨e1, e2⟩ | ⟨x, e2, hb, hh⟩
  · rw [e2] at c4
    refine ⟨g, 0, none, 0, hg, ⟨hrow.1, hrow.2.1⟩, c0, c1, c2, c3, ?_, ?_, ?_⟩
    · rw [c4, e1]; rfl
    · rw [e1]; simp [InAt, zs]
    · rw [e1]; exact Nat.le_refl _
  · rw [e2] at c4
    refine ⟨g, 0, _, _, hg, ⟨hrow.1, hrow.2.1⟩, c0, c1, c2, c3, c4, InAt.of fun j hj => ⟨⟨hb, (Array.getElem?_eq_some_iff.1 hh).1⟩, ?_⟩, Nat.le_refl _⟩
    rw [cell_of_row w x (0 + j) _ _ (0, 0) hh]
    have hj' : j < l[i].next.length := by simpa [zs] using hj
    simp [zs_get, hj']
def adOf (nv : List Value) (i : Nat) : Option Addr := match nv[i]? with | some (.slice a _ _) => a | _ => none
def cpOf (nv : List Value) (i : Nat) : Nat := match nv[i]? with | some (.slice _ _ c) => c | _ => 0
def nxOf (l : List Pt) (i : Nat) : Nat := match l[i]? with | some q => q.next.length | none => 0
theorem nxOf_get {l : List Pt} {i : Nat} (h : i < l.length) : nxOf l i = l[i].next.length := by unfold nxOf; rw [List.getElem?_eq_getElem h]
theorem adOf_get {nv : List Value} {i n c : Nat} {a : Option Addr} (h : i < nv.length) (e : nv[i] = .slice a n c) : adOf nv i = a := by unfold adOf; rw [List.getElem?_eq_getElem h, e]
theorem cpOf_get {nv : List Value} {i n c : Nat} {a : Option Addr} (h : i < nv.length) (e : nv[i] = .slice a n c) : cpOf nv i = c := by unfold cpOf; rw [List.getElem?_eq_getElem h, e]
theorem smP_le {ms : Nat → Nat} : ∀ {n : Nat}, (∀ i, i < n → ms i ≤ 2) → smP ms n ≤ 6 * n
  | 0, _ => by simp [smP]
  | n + 1, h => by
    have h1 := smP_le (n := n) (fun i hi => h i (by omega))
    have h2 := h n (by omega)
    simp only [smP]; omega
/-- What is owned may be marked. -/
theorem PtsOwn.shape {w : World} {base : Nat} {ao : Option Addr} {cap : Nat} {l : List Pt} (h : PtsOwn w base ao cap l) : ∃ (P : Nat → Prop) (b : Nat) (ads : Nat → Option Addr) (cs : Nat → Nat),
    (0 < l.length → ao = some ⟨b, 0, none⟩) ∧ PtSh w P b 0 l.length (nxOf l) ads cs ∧ (∀ g, P g → base ≤ g ∧ g < w.heap.size) ∧ (∀ x : Addr, P x.block → w.frozen? x = false) := by
  by_cases h0 : 0 < l.length
  · obtain ⟨g, hg⟩ := h.addr h0
    obtain ⟨hr1, hr2, crow, hr3⟩ := h.row g (by rw [hg]; rfl)
    obtain ⟨nv, hl, hown, hn, hd⟩ := h
    have hA : ∀ i (hi : i < l.length), nv[i]'(by omega) = .slice (adOf nv i) (nxOf l i) (cpOf nv i) := by
      intro i hi
      rcases hn i hi with ⟨e1, e2⟩ | ⟨x, e2, -, -⟩
      · rw [adOf_get (by omega) e2, cpOf_get (by omega) e2, nxOf_get hi, e1]; exact e2
      · rw [adOf_get (by omega) e2, cpOf_get (by omega) e2, nxOf_get hi]; exact e2
    have hob : ∀ i (hi : i < l.length), (nv[i]?).bind Value.ownBlock = ob (adOf nv i) := by
      intro i hi
      rw [List.getElem?_eq_getElem (by omega), hA i hi]
      show Value.ownBlock _ = _
      rw [ownBlock_slice]
    have hlt : ∀ i (_ : i < l.length) x, ob (adOf nv i) = some x → base ≤ x ∧ x < w.heap.size ∧ ∃ cs, w.heap[x]? = some (.cells cs 3 (0, 0)) := by
      intro i hi x hx
      refine (hn i hi).lt x ?_
      rw [hA i hi, ownBlock_slice]; exact hx
    refine ⟨fun x => x = g ∨ ∃ i, i < l.length ∧ ob (adOf nv i) = some x, g, adOf nv, cpOf nv, fun _ => hg, ⟨fun _ => .inl rfl, fun i hi => ?_, fun i hi => ?_, fun i hi => ?_, fun i hi x hx => ⟨.inr ⟨i, hi, hx⟩, ?_⟩, fun i j hi hj hij x hx => ?_⟩, ?_, ?_⟩
    · obtain ⟨c0, c1, c2, c3, -⟩ := PtsOwn.cells hl hown hg hi
      exact ⟨_, _, _, _, c0, c1, c2, c3⟩
    · obtain ⟨-, -, -, -, c4⟩ := PtsOwn.cells hl hown hg hi
      rw [c4, hA i hi]
    · intro j hj
      rcases hn i hi with ⟨e1, e2⟩ | ⟨x, e2, hb, hh⟩
      · rw [nxOf_get hi, e1] at hj; simp at hj
      · rw [adOf_get (by omega) e2]
        rw [nxOf_get hi] at hj
        refine ⟨x, 0, ((l[i].next[j] : Nat) : Int), rfl, rfl, ?_⟩
        rw [cell_of_row w x (0 + j) _ _ (0, 0) hh]
        simp [hj]
    · intro e
      obtain ⟨_, _, cs, hc⟩ := hlt i hi x hx
      rw [e, hr3] at hc
      simp at hc
    · intro e
      exact hd i j x hij (by rw [hob i hi]; exact hx) (by rw [hob j hj]; exact e)
    · rintro x (rfl | ⟨i, hi, hx⟩)
      · exact ⟨hr1, hr2⟩
      · obtain ⟨h1, h2, _⟩ := hlt i hi x hx
        exact ⟨h1, h2⟩
    · rintro ⟨xb, xo, xs⟩ (e | ⟨i, hi, hx⟩)
      · simp only at e; subst e; simp [World.frozen?, hr3]
      · obtain ⟨_, _, cs, hc⟩ := hlt i hi xb hx
        simp [World.frozen?, hc]
  · exact ⟨fun _ => False, 0, fun _ => none, fun _ => 0, fun h => absurd h h0, ⟨fun h => absurd h h0, fun i hi => absurd hi (by omega), fun i hi => absurd hi (by omega), fun i hi => absurd hi (by omega), fun i hi => absurd hi (by omega), fun i j hi => absurd hi (by omega)⟩, fun g h => h.elim, fun x h => h.elim⟩
end Go.Proofs.Ytdnhinkjmjpnnaa

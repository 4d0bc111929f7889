/- Tables of marks. Walks of l9Regions, RegionOf, Outlives of the reference. -/
import Derived.Test.YtadlnjglpigjmaaF2

import Derived.Test.YtadlnjglpigjmaaZ3

namespace Go.Proofs.Ytadlnjglpigjmaa

open Go.RowKit

/-! ### Tables: a list of rows of marks -/

def gRow (m : Nat) (g : Nat) : List Value := [.slice (some ⟨g, 0, none⟩) m m]
/-- The rows gs, of m marks each, with the marks F. -/
def RowsF (w : World) (gs : List Nat) (m : Nat) (F : Nat → Nat → Bool) : Prop := ∀ v (h : v < gs.length), Row w gs[v] m (F v)
theorem RowsF.gr {w w' : World} {gs : List Nat} {m : Nat} {F : Nat → Nat → Bool} {row : Option Nat} (h : RowsF w gs m F) (hg : Gr w w' row) (hr : ∀ g ∈ gs, row ≠ some g) : RowsF w' gs m F :=
  fun v hv => (h v hv).gr hg (hr _ (List.getElem_mem hv))
theorem RowsF.gr0 {w w' : World} {gs : List Nat} {m : Nat} {F : Nat → Nat → Bool} (h : RowsF w gs m F) (hg : Gr w w' none) : RowsF w' gs m F := h.gr hg (by simp)
theorem RowsF.lt {w : World} {gs : List Nat} {m : Nat} {F : Nat → Nat → Bool} (h : RowsF w gs m F) : ∀ g ∈ gs, g < w.heap.size := by
  intro g hg
  obtain ⟨v, hv, rfl⟩ := List.getElem_of_mem hg
  exact (h v hv).lt
theorem RowsF.congr {w : World} {gs : List Nat} {m : Nat} {F G : Nat → Nat → Bool} (h : RowsF w gs m F) (e : ∀ v j, v < gs.length → j < m → F v j = G v j) : RowsF w gs m G :=
  fun v hv => (h v hv).congr fun j hj => e v j hv hj
theorem RowsF.snoc {w : World} {gs : List Nat} {m g : Nat} {F : Nat → Nat → Bool} (h : RowsF w gs m F) (hg : Row w g m (F gs.length)) : RowsF w (gs ++ [g]) m F := by
  intro v hv
  by_cases e : v < gs.length
  · rw [List.getElem_append_left e]; exact h v e
  · obtain rfl : v = gs.length := by simp at hv; omega
    rw [List.getElem_append_right (Nat.le_refl _)]
    simpa using hg
/-- One row is written. -/
theorem RowsF.upd {w w' : World} {gs : List Nat} {m : Nat} {F G : Nat → Nat → Bool} (h : RowsF w gs m F) (hn : gs.Nodup) {v : Nat} (hv : v < gs.length) (hg : Gr w w' (some gs[v])) (hr : Row w' gs[v] m (G v)) (e : ∀ u, u ≠ v → G u = F u) : RowsF w' gs m G := by
  intro u hu
  by_cases he : u = v
  · subst he; exact hr
  · rw [e u he]
    refine (h u hu).gr hg fun hh => ?_
    cases hh' : gs[u] with
    | _ =>
      have h1 : gs[v] = gs[u] := by simpa using hh
      exact he ((List.getElem_inj hn).1 h1).symm
theorem RowsF.off {w : World} {gs : List Nat} {m : Nat} {F : Nat → Nat → Bool} (h : RowsF w gs m F) {b : Nat} {cs : Array Value} {t : TypeId} {x : Nat × Nat} (hb : w.heap[b]? = some (.cells cs t x)) (ht : t ≠ 4) : b ∉ gs := by
  intro hm
  obtain ⟨v, hv, rfl⟩ := List.getElem_of_mem hm
  obtain ⟨cs', h1⟩ := (h v hv).type
  rw [hb] at h1
  simp at h1
  exact ht h1.2.1
theorem LstR.typ {e : TypeId} {s : Nat} {w : World} {b0 base : Nat} {l : List (List Value)} {ao : Option Addr} {n cap : Nat} (h : LstR e s w b0 base l ao n cap) (hl : l ≠ []) {g : Nat} (hg : ob ao = some g) : ∃ cs, w.heap[g]? = some (.cells cs e (0, 0)) := by
  obtain ⟨hn, _, hr, h⟩ := h
  rcases h with ⟨h1, _⟩ | h4
  · exact absurd h1 hl
  · rcases h4.2 with ⟨hv, h0⟩ | ⟨g', cap', cur, hv, hb, hc, _⟩
    · exact absurd (List.eq_nil_of_length_eq_zero (by omega)) hl
    · cases hv
      simp [ob] at hg
      subst hg
      exact ⟨_, hc⟩
theorem RowsAt.off {s : Nat} {w w' : World} {row : Option Nat} {D : Nat → Nat → Prop} {L : List (List Value)} {a : Option Addr} (h : RowsAt s w D L a) (hg : Gr w w' row) (hr : ∀ b, ob a = some b → row ≠ some b) : RowsAt s w' Any L a :=
  (h.block.gr hg fun b _ hb => hr b hb).any

theorem SBinfo : (Try.prog.info? 54).map (fun i => (i.zero, i.size, i.bytes)) = some (some (.slice none 0 0), 1, 24) := by kernel_rfl
theorem app_row (w0 w : World) {ops : Array Oper} {rest : List Oper} {o : Oper} {a : Act} {Q : Exit → Act → World → Prop} (hgd : o.guard = none) (x y : Operand)
    (ho : o.op = .call { callee := .builtin .append, args := #[x, y], argTypes := #[55, 55] })
    (b0 base : Nat) (ao : Option Addr) (cap n m gr : Nat) (gs : List Nat) (hs : a.eval x = .slice ao n cap) (hown : LstR 54 1 w0 b0 base (gs.map (gRow m)) ao n cap) (h0 : Gr w0 w none)
    (bx cx : Nat) (hx : a.eval y = .slice (some ⟨bx, 0, none⟩) 1 cx) (hc : w.heap[bx]? = some (.cells #[.slice (some ⟨gr, 0, none⟩) m m] 54 (0, 0))) (hlen : n ≤ 1000000) (hbase : base ≤ w0.heap.size)
    (h : ∀ (g cap' : Nat) (w' : World), LstR 54 1 w' b0 base ((gs ++ [gr]).map (gRow m)) (some ⟨g, 0, none⟩) (n + 1) cap' → (∀ a : World, Gr a w none → a.heap.size ≤ base → Gr a w' none) → Gr w w' (ob ao) →
      wpList Try.prog ops Q rest (a.put o.dst (.slice (some ⟨g, 0, none⟩) (n + 1) cap')) w') : wpList Try.prog ops Q (o :: rest) a w := by
  refine app_r w0 w hgd x y 55 ho 54 1 24 (.slice none 0 0) Try.underlying55 SBinfo rfl (by decide) (by decide) b0 base ao cap n _ (gRow m gr) hs hown h0 bx cx hx _ hc rfl rfl (by intro u hu; simp [gRow] at hu; subst hu; rfl) (by omega) hbase ?_
  intro g cap' w' h1 h2 h3
  refine h g cap' w' ?_ h2 h3
  rw [List.map_append]
  exact h1
theorem RowsF.grow {w w1 w4 : World} {b0 base cap n m : Nat} {ao : Option Addr} {gs : List Nat} {F : Nat → Nat → Bool} (h : RowsF w gs m F) (hL : LstR 54 1 w b0 base (gs.map (gRow m)) ao n cap) (hw : Gr w w1 none) (hr : Row w1 w.heap.size m (F gs.length)) (hg : Gr w1 w4 (ob ao)) : RowsF w4 (gs ++ [w.heap.size]) m F := by
  refine RowsF.snoc ((h.gr0 hw).gr hg ?_) (hr.gr hg ?_)
  · intro g hgm e
    have hne : gs.map (gRow m) ≠ [] := by
      intro h0
      have := List.map_eq_nil_iff.1 h0
      subst this
      simp at hgm
    obtain ⟨cs, hc⟩ := hL.typ hne e
    exact h.off hc (by decide) hgm
  · intro e
    have := hL.lt _ e
    omega
theorem gs_off {w : World} {b0 base cap n m : Nat} {ao : Option Addr} {gs : List Nat} {F : Nat → Nat → Bool} (h : RowsF w gs m F) (hL : LstR 54 1 w b0 base (gs.map (gRow m)) ao n cap) : ∀ g ∈ gs, ob ao ≠ some g := by
  intro g hgm e
  have hne : gs.map (gRow m) ≠ [] := by
    intro h0
    have := List.map_eq_nil_iff.1 h0
    subst this
    simp at hgm
  obtain ⟨cs, hc⟩ := hL.typ hne e
  exact h.off hc (by decide) hgm
theorem tab_cell {w : World} {gs : List Nat} {m : Nat} {a : Option Addr} (h : RowsAt 1 w Any (gs.map (gRow m)) a) {v : Nat} (hv : v < gs.length) : ∃ b off, a = some ⟨b, off, none⟩ ∧ w.cell? ⟨b, off + v, none⟩ = some (.slice (some ⟨gs[v], 0, none⟩) m m) := by
  obtain ⟨b, off, e, -, hc⟩ := h v (by simpa using hv)
  refine ⟨b, off, e, ?_⟩
  have := hc 0 (.slice (some ⟨gs[v], 0, none⟩) m m) (by simp [gRow])
  simpa using this
/-! ### The rounds -/

theorem passS_snoc {k : Nat} (B : List Bd) (b : Bd) (S : Nat → Bool) : passS k (B ++ [b]) S = updS k (passS k B S) b := by
  unfold passS; rw [List.foldl_append]; rfl
theorem passS_take {k i : Nat} {B : List Bd} (h : i < B.length) (S : Nat → Bool) : passS k (B.take (i + 1)) S = updS k (passS k (B.take i) S) B[i] := by
  rw [List.take_succ_eq_append_getElem h, passS_snoc]
/-- The marks after r rounds and i bounds. -/
def midF (B : List Bd) (r i : Nat) (v k : Nat) : Bool := passS k (B.take i) (iterS k B (fun _ => false) r) v
theorem midF_zero (B : List Bd) (v k : Nat) : midF B 0 0 v k = false := rfl
theorem midF_next (B : List Bd) (r i : Nat) (hi : B.length ≤ i) (v k : Nat) : midF B r i v k = midF B (r + 1) 0 v k := by
  unfold midF; rw [List.take_of_length_le hi]; rfl
theorem midF_loan {B : List Bd} {r i v kk : Nat} (h : i < B.length) (e : B[i] = .loan v kk) (u k : Nat) : midF B r (i + 1) u k = if u = v ∧ k = kk then true else midF B r i u k := by
  unfold midF; rw [passS_take h, e]
  simp only [updS]
  by_cases h1 : u = v ∧ k = kk
  · rw [if_pos h1]; simp [h1]
  · rw [if_neg h1]
    have : (decide (u = v) && decide (kk = k)) = false := by
      simp only [Bool.and_eq_false_iff, decide_eq_false_iff_not]
      by_cases h2 : u = v
      · exact .inr fun h3 => h1 ⟨h2, h3.symm⟩
      · exact .inl h2
    rw [this, Bool.or_false]
theorem midF_frm {B : List Bd} {r i v u : Nat} (h : i < B.length) (e : B[i] = .frm v u) (x k : Nat) : midF B r (i + 1) x k = if x = v then (midF B r i v k || midF B r i u k) else midF B r i x k := by
  unfold midF; rw [passS_take h, e]
  simp only [updS]
  by_cases h1 : x = v
  · subst h1; simp
  · simp [h1]
theorem midF_done (p : Pr) (v k : Nat) : midF (bds p) (p.types.length + 1) 0 v k = regB p v k := by
  unfold midF; exact regB_iter

theorem mid_step {B : List Bd} {wB wr w1 w4 : World} {gs : List Nat} {m r i v : Nat} {ao : Option Addr} {R : Nat → Bool} (hF : RowsF wr gs m (midF B r i)) (hw : Gr wr w1 none) (hn : gs.Nodup) (hv : v < gs.length) (hg : Gr w1 w4 (some gs[v])) (hR : Row w4 gs[v] m R)
    (hRe : ∀ j, R j = midF B r (i + 1) v j) (ho : ∀ u, u ≠ v → ∀ j, midF B r (i + 1) u j = midF B r i u j) (hT : RowsAt 1 wr Any (gs.map (gRow m)) ao) (hoff : ∀ g ∈ gs, ob ao ≠ some g) (hgs : ∀ g ∈ gs, wB.heap.size ≤ g) (hG : Gr wB wr none) :
    RowsF w4 gs m (midF B r (i + 1)) ∧ RowsAt 1 w4 Any (gs.map (gRow m)) ao ∧ Gr wB w4 none :=
  ⟨(hF.gr0 hw).upd hn hv hg (hR.congr fun j _ => hRe j) (fun u hu => funext (ho u hu)), (hT.gr0 hw).off hg (fun b hb e => hoff _ (List.getElem_mem hv) (by rw [hb]; exact e.symm)), (hG.trans0 hw).trans hg (fun x e => .inr (by cases e; exact hgs _ (List.getElem_mem hv)))⟩
theorem Row.drew {w : World} {g n : Nat} {F : Nat → Bool} (h : Row w g n F) : Row w.drew g n F := h.gr0 (Gr.refl w none).drew
/-- A table of regions is handed back. -/
def Tabled (p : Pr) (w : World) (e : Ending) (w' : World) : Prop :=
  ∃ (a : Option Addr) (c : Nat) (gs : List Nat), gs.length = p.types.length ∧ e = .returned (.slice a p.types.length c) ∧ RowsAt 1 w' Any (gs.map (gRow (ptsOf p).length)) a ∧ RowsF w' gs (ptsOf p).length (regB p) ∧ Gr w w' none
end Go.Proofs.Ytadlnjglpigjmaa

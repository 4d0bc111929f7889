/- Statements that a call has collected, in memory of its own. No walk stands here. -/
import Derived.Test.YtadidppbhpdnkaaMB

import Derived.Test.YtadidppbhpdnkaaV5

namespace Go.Proofs.Ytadidppbhpdnkaa

open Go.RowKit

/-- Where the lists of collected statements lie: in blocks that are new from base on, other than the row's own. -/
def Inn (base : Nat) (ao : Option Addr) (b _ : Nat) : Prop := base ≤ b ∧ ob ao ≠ some b
/-- In blocks that are new from base on. -/
def New (base : Nat) (b _ : Nat) : Prop := base ≤ b
/-- The six cells of a statement; its lists lie in D. -/
def StRow (w : World) (D : Nat → Nat → Prop) (s : St) (r : List Value) : Prop :=
  s.thn.length ≤ maxLen ∧ s.els.length ≤ maxLen ∧ ∃ at' ct ae ce, r = [.int .i64 s.op, .int .i64 s.x, .int .i64 s.y, .int .i64 s.n, .slice at' s.thn.length ct, .slice ae s.els.length ce] ∧ SlAt w D s.thn at' ∧ SlAt w D s.els ae
theorem StRow.len {w : World} {D : Nat → Nat → Prop} {s : St} {r : List Value} (h : StRow w D s r) : r.length = 6 := by
  obtain ⟨_, _, _, _, _, _, rfl, _⟩ := h; rfl
theorem StRow.one {w : World} {D : Nat → Nat → Prop} {s : St} {r : List Value} (h : StRow w D s r) : ∀ u ∈ r, u.oneCell' = true := by
  obtain ⟨_, _, _, _, _, _, rfl, _⟩ := h
  intro u hu
  simp only [List.mem_cons, List.not_mem_nil, or_false] at hu
  rcases hu with rfl | rfl | rfl | rfl | rfl | rfl <;> rfl
theorem StRow.map {w w' : World} {D D' : Nat → Nat → Prop} {s : St} {r : List Value} (h : StRow w D s r) (f : ∀ l a, SlAt w D l a → SlAt w' D' l a) : StRow w' D' s r := by
  obtain ⟨h1, h2, at', ct, ae, ce, hr, h3, h4⟩ := h
  exact ⟨h1, h2, at', ct, ae, ce, hr, f _ _ h3, f _ _ h4⟩
theorem StRow.gr0 {w w' : World} {D : Nat → Nat → Prop} {s : St} {r : List Value} (h : StRow w D s r) (hg : Gr w w' none) : StRow w' D s r := h.map fun _ _ h => h.gr0 hg
theorem SlAt.sub {w : World} {D D' : Nat → Nat → Prop} {l : List St} {a : Option Addr} (h : SlAt w D l a) (hD : ∀ b o, D b o → D' b o) : SlAt w D' l a := SlAt.mono hD (fun _ _ _ _ _ _ h => h) l a h
theorem StRow.sub {w : World} {D D' : Nat → Nat → Prop} {s : St} {r : List Value} (h : StRow w D s r) (hD : ∀ b o, D b o → D' b o) : StRow w D' s r := h.map fun _ _ h => h.sub hD
/-- What lies in new blocks does not care for what is written into an old one. -/
theorem SlAt.far {w w' : World} {row : Option Nat} {base : Nat} {l : List St} {a : Option Addr} (h : SlAt w (New base) l a) (hg : Gr w w' row) (hr : ∀ r, row = some r → r < base) : SlAt w' (New base) l a :=
  SlAt.gr hg (fun b _ hd e => by have := hr b e; unfold New at hd; omega) h
theorem StRow.far {w w' : World} {row : Option Nat} {base : Nat} {s : St} {r : List Value} (h : StRow w (New base) s r) (hg : Gr w w' row) (hr : ∀ r, row = some r → r < base) : StRow w' (New base) s r := h.map fun _ _ h => h.far hg hr
/-- The statements l, collected. -/
def Sts (w : World) (base : Nat) (ao : Option Addr) (cap : Nat) (l : List St) : Prop :=
  ∃ rows : List (List Value), ∃ hl : rows.length = l.length, w.ownsRow base 96 6 (.slice ao l.length cap) l.length rows.flatten ∧ ∀ i (h : i < l.length), StRow w (Inn base ao) l[i] (rows[i]'(by omega))
theorem Sts.nil (w : World) (base : Nat) : Sts w base none 0 [] := ⟨[], rfl, ⟨by simp, .inl ⟨rfl, rfl⟩⟩, fun i h => absurd h (by simp)⟩
theorem Sts.empty {w : World} {base g : Nat} (hb : base ≤ g) (h : w.heap[g]? = some (.cells #[] 96 (0, 0))) : Sts w base (some ⟨g, 0, none⟩) 0 [] :=
  ⟨[], rfl, ⟨by simp, .inr ⟨g, 0, #[], rfl, hb, h, Nat.le_refl _, by simp [maxLen], rfl, rfl⟩⟩, fun i h => absurd h (by simp)⟩
theorem Sts.own {w : World} {base : Nat} {ao : Option Addr} {cap : Nat} {l : List St} (h : Sts w base ao cap l) : ∀ g, ob ao = some g → base ≤ g ∧ g < w.heap.size := by
  obtain ⟨rows, hl, ho, _⟩ := h
  exact own_block ho
theorem Sts.frz {w : World} {base : Nat} {ao : Option Addr} {cap : Nat} {l : List St} (h : Sts w base ao cap l) : ∀ x : Addr, ob ao = some x.block → w.frozen? x = false := by
  obtain ⟨rows, hl, ho, _⟩ := h
  exact own_frozen ho
theorem Sts.gr {w w' : World} {row : Option Nat} {base : Nat} {ao : Option Addr} {cap : Nat} {l : List St} (h : Sts w base ao cap l) (hg : Gr w w' row) (hr : ∀ r, row = some r → r < base) : Sts w' base ao cap l := by
  have hown := h.own
  obtain ⟨rows, hl, ho, hs⟩ := h
  refine ⟨rows, hl, ho.kept hg ?_, fun i hi => (hs i hi).map fun _ _ h => SlAt.gr hg (fun b _ hd e => by have := hr b e; have := hd.1; omega) h⟩
  rw [ownBlock_slice]
  cases ha : ob ao with
  | none => exact .inl rfl
  | some g => exact .inr (fun e => by have := hr g e.symm; have := (hown g ha).1; omega)
theorem Sts.gr0 {w w' : World} {base : Nat} {ao : Option Addr} {cap : Nat} {l : List St} (h : Sts w base ao cap l) (hg : Gr w w' none) : Sts w' base ao cap l := h.gr hg (by simp)
theorem Sts.base {w : World} {base base' : Nat} {ao : Option Addr} {cap : Nat} {l : List St} (h : Sts w base ao cap l) (hb : base' ≤ base) : Sts w base' ao cap l := by
  obtain ⟨rows, hl, ho, hs⟩ := h
  exact ⟨rows, hl, own_mono ho hb, fun i hi => (hs i hi).sub fun b o hd => ⟨by have := hd.1; omega, hd.2⟩⟩
/-- Its cells. -/
theorem Sts.cell {w : World} {base : Nat} {g cap : Nat} {l : List St} (h : Sts w base (some ⟨g, 0, none⟩) cap l) {i : Nat} (hi : i < l.length) :
    ∃ r, StRow w (Inn base (some ⟨g, 0, none⟩)) l[i] r ∧ ∀ j v, r[j]? = some v → w.cell? ⟨g, i * 6 + j, none⟩ = some v := by
  obtain ⟨rows, hl, ho, hs⟩ := h
  refine ⟨rows[i]'(by omega), hs i hi, fun j v hv => ?_⟩
  have hlen : ∀ r ∈ rows, r.length = 6 := fun r hr => by
    obtain ⟨k, hk, rfl⟩ := List.getElem_of_mem hr
    exact (hs k (by omega)).len
  have hj := (List.getElem?_eq_some_iff.1 hv).1
  rw [(hs i hi).len] at hj
  rw [ho.cellAt (i * 6 + j) (by omega)]
  exact flatten_get rows hlen i (by omega) j v hv
theorem Sts.addr {w : World} {base : Nat} {ao : Option Addr} {cap : Nat} {l : List St} (h : Sts w base ao cap l) (hn : 0 < l.length) : ∃ g, ao = some ⟨g, 0, none⟩ := by
  obtain ⟨rows, hl, hown, _⟩ := h
  obtain ⟨g, cap', hv⟩ := own_some hown hn
  simp only [Value.slice.injEq] at hv
  exact ⟨g, hv.1⟩
/-- It may be read. -/
theorem Sts.at {w : World} {base : Nat} {ao : Option Addr} {cap : Nat} {l : List St} (h : Sts w base ao cap l) : SlAt w (New base) l ao := by
  by_cases hn : l = []
  · subst hn; simp [SlAt]
  · obtain ⟨g, rfl⟩ := h.addr (List.length_pos_iff.2 hn)
    have hb := (h.own g rfl).1
    refine SlAt.of fun i hi => ?_
    obtain ⟨r, ⟨h1, h2, at', ct, ae, ce, rfl, h3, h4⟩, hc⟩ := h.cell hi
    rw [Nat.zero_add]
    exact StAt.into ⟨hb, h1, h2, at', ct, ae, ce, hc 0 _ rfl, hc 1 _ rfl, hc 2 _ rfl, hc 3 _ rfl, hc 4 _ rfl, hc 5 _ rfl, h3.sub fun _ _ h => h.1, h4.sub fun _ _ h => h.1⟩
theorem StRow.push {w w' : World} {base g : Nat} {ao : Option Addr} {s : St} {r : List Value} (h : StRow w (Inn base ao) s r) (hg : Gr w w' (ob ao)) (hn : ob ao = some g ∨ w.heap.size ≤ g) : StRow w' (Inn base (some ⟨g, 0, none⟩)) s r :=
  h.map fun l a hl => SlAt.mono (D := fun b o => Inn base ao b o ∧ b < w.heap.size) (fun b o hd => ⟨hd.1.1, by
    intro e
    simp [ob] at e
    rcases hn with q | q
    · exact hd.1.2 (by rw [q, e])
    · have := hd.2; omega⟩) (fun b o v hd j _ hc => hg.cell hc hd.1.2) l a (SlAt.lt l a hl)
theorem StInfo : (Try.prog.info? 96).map (fun i => (i.zero, i.size, i.bytes)) = some (some (.agg #[.int .i64 0, .int .i64 0, .int .i64 0, .int .i64 0, .slice none 0 0, .slice none 0 0]), 6, 80) := by kernel_rfl
/-- append of statements, in the walk: their rows lie from ad on. -/
theorem app_sts (w : World) {ops : Array Oper} {rest : List Oper} {o : Oper} {a : Act} {Q : Exit → Act → World → Prop} (hgd : o.guard = none) (s x : Operand)
    (ho : o.op = .call { callee := .builtin .append, args := #[s, x], argTypes := #[24, 24] })
    (base : Nat) (ao : Option Addr) (cap : Nat) (L : List St) (n : Nat) (hn : L.length = n) (hs : a.eval s = .slice ao n cap) (hown : Sts w base ao cap L) (hL : n ≤ 100000) (hbase : base ≤ w.heap.size)
    (t : St) (r : List Value) (ad : Addr) (c : Nat) (hx : a.eval x = .slice (some ad) 1 c) (hb : ∀ j u, r[j]? = some u → w.cell? (ad.add j) = some u) (hr : StRow w (Inn base ao) t r)
    (h : ∀ (g cap' : Nat) (w' : World), Sts w' base (some ⟨g, 0, none⟩) cap' (L ++ [t]) → Gr w w' (ob ao) → (ob ao = some g ∨ w.heap.size ≤ g) →
      wpList Try.prog ops Q rest (a.put o.dst (.slice (some ⟨g, 0, none⟩) (n + 1) cap')) w') : wpList Try.prog ops Q (o :: rest) a w := by
  subst hn
  obtain ⟨i0, hi, hz0, hz1, hz2⟩ := info_parts StInfo
  have hown' := hown
  obtain ⟨rows, hl, hrow, hss⟩ := hown'
  refine app_own w hgd s x 24 ho base 96 i0 _ 6 80 Try.underlying24 hi hz0 hz1 hz2 rfl (by decide) ao L.length cap rows.flatten hs hrow ad 1 c r hx (by rw [hr.len]) hb hr.one (by unfold maxLen; omega) (by omega) hbase (by omega) ?_
  intro g cap' w' h2 h3 h4
  refine h g cap' w' ⟨rows ++ [r], by simp [hl], by simpa using h2, fun i hi => ?_⟩ h3 h4
  by_cases hlt : i < L.length
  · rw [List.getElem_append_left hlt, List.getElem_append_left (show i < rows.length by omega)]
    exact (hss i hlt).push h3 h4
  · have : i = L.length := by simp at hi; omega
    subst this
    rw [List.getElem_append_right (by omega), List.getElem_append_right (by omega)]
    simp only [hl, Nat.sub_self, List.getElem_cons_zero]
    exact hr.push h3 h4
/-- The new statement lies in a block of its own. -/
theorem row_cells {w : World} {bx : Nat} {cs : Array Value} {t : TypeId} (hc : w.heap[bx]? = some (.cells cs t (0, 0))) : ∀ j u, cs.toList[j]? = some u → w.cell? ((⟨bx, 0, none⟩ : Addr).add j) = some u := by
  intro k u hu
  have hadd : (⟨bx, 0, none⟩ : Addr).add k = ⟨bx, k, none⟩ := by unfold Addr.add; split <;> simp_all
  rw [hadd, cell_of_row _ _ _ _ _ _ hc]
  simpa using hu
theorem count_app : ∀ (l m : List St), St.count (l ++ m) = St.count l + St.count m
  | [], m => by simp [St.count]
  | s :: r, m => by simp only [List.cons_append, St.count, count_app r m]; omega
theorem count_one (s : St) : St.count [s] = 1 + s.inner := by simp [St.count]
end Go.Proofs.Ytadidppbhpdnkaa

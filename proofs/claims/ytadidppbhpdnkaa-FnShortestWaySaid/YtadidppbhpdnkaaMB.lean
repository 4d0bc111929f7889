/- Lists of structs of some cells each, handed back in new memory: rows. No walk stands here. -/
/- Walks of the laws' own helpers on lists of Loan: equality, marks, looks. -/
/- Walks of the laws' own helpers on lists of Bound: equality, marks, looks. -/
import Derived.Test.YtadidppbhpdnkaaM3

namespace Go.Proofs.Ytadidppbhpdnkaa

open Go.RowKit

theorem like_same {a b c : Value} (h : Like a b) (h' : Like a c) : Like b c := by
  cases a <;> simp only [Like] at h h' <;> (try (obtain ⟨m, rfl⟩ := h)) <;> (try (obtain ⟨m', rfl⟩ := h')) <;> (try subst h) <;> (try subst h') <;> simp [Like]
theorem Wr.boolc {P : Nat → Prop} {w w' : World} (h : Wr P w w') {a : Addr} {x : Bool} (hc : w.cell? a = some (.bool x)) : ∃ y, w'.cell? a = some (.bool y) := by
  obtain ⟨u, hu, hl⟩ := h.like a _ hc
  obtain ⟨m, rfl⟩ := hl.bool
  exact ⟨m, hu⟩
/-- The rows L, of s cells each, lie from a on; D: in which blocks. -/
def RowsAt (s : Nat) (w : World) (D : Nat → Nat → Prop) (L : List (List Value)) (a : Option Addr) : Prop :=
  ∀ i (h : i < L.length), ∃ b off, a = some ⟨b, off, none⟩ ∧ D b (off + i * s) ∧ ∀ j v, (L[i])[j]? = some v → w.cell? ⟨b, off + i * s + j, none⟩ = some v
theorem RowsAt.mono {s : Nat} {w w' : World} {D D' : Nat → Nat → Prop} {L : List (List Value)} {a : Option Addr} (h : RowsAt s w D L a) (hD : ∀ b o, D b o → D' b o) (hc : ∀ b o j v, D b o → w.cell? ⟨b, o + j, none⟩ = some v → w'.cell? ⟨b, o + j, none⟩ = some v) : RowsAt s w' D' L a := by
  intro i hi
  obtain ⟨b, off, e, hd, hv⟩ := h i hi
  exact ⟨b, off, e, hD _ _ hd, fun j v hj => hc _ _ _ _ hd (hv j v hj)⟩
theorem RowsAt.gr0 {s : Nat} {w w' : World} {D : Nat → Nat → Prop} {L : List (List Value)} {a : Option Addr} (h : RowsAt s w D L a) (hg : Gr w w' none) : RowsAt s w' D L a :=
  h.mono (fun _ _ h => h) (fun _ _ _ _ _ hc => hg.cell hc (by simp))
theorem RowsAt.any {s : Nat} {w : World} {D : Nat → Nat → Prop} {L : List (List Value)} {a : Option Addr} (h : RowsAt s w D L a) : RowsAt s w Any L a := h.mono (fun _ _ _ => trivial) (fun _ _ _ _ _ h => h)
theorem RowsAt.block {s : Nat} {w : World} {D : Nat → Nat → Prop} {L : List (List Value)} {a : Option Addr} (h : RowsAt s w D L a) : RowsAt s w (fun b _ => ob a = some b) L a := by
  intro i hi
  obtain ⟨b, off, e, hd, hv⟩ := h i hi
  exact ⟨b, off, e, by rw [e]; rfl, hv⟩
theorem RowsAt.wr {P : Nat → Prop} {s : Nat} {w w' : World} {D : Nat → Nat → Prop} {L : List (List Value)} {a : Option Addr} (hI : RowsAt s w D L a) (h : Wr P w w') (hD : ∀ b o, D b o → ¬ P b) : RowsAt s w' D L a :=
  hI.mono (fun _ _ h => h) (fun b _ _ _ hd hc => h.cell hc (hD b _ hd))
/-- The rows L are handed back, in new memory that may be written. -/
def HandR (s : Nat) (L : List (List Value)) (w : World) (e : Ending) (w' : World) : Prop :=
  ∃ (a : Option Addr) (c : Nat), e = .returned (.slice a L.length c) ∧ RowsAt s w' Any L a ∧ (∀ g, ob a = some g → w.heap.size ≤ g ∧ g < w'.heap.size) ∧ (∀ x : Addr, ob a = some x.block → w'.frozen? x = false) ∧ Gr w w' none
theorem RowsAt.nil (s : Nat) (w : World) (D : Nat → Nat → Prop) (a : Option Addr) : RowsAt s w D [] a := fun _ h => absurd h (by simp)
theorem HandR.nil (s : Nat) (w w' : World) (hg : Gr w w' none) : HandR s [] w (.returned (.slice none 0 0)) w' := ⟨none, 0, rfl, RowsAt.nil _ _ _ _, by simp [ob], by simp [ob], hg⟩
theorem HandR.after {s : Nat} {l : List (List Value)} {w0 w w' : World} {e : Ending} (h : HandR s l w e w') (hg : Gr w0 w none) : HandR s l w0 e w' := by
  obtain ⟨a, c, he, h1, h2, h3, h4⟩ := h
  exact ⟨a, c, he, h1, fun g hgo => ⟨Nat.le_trans hg.size (h2 g hgo).1, (h2 g hgo).2⟩, h3, hg.trans0 h4⟩

/-- Rows that a loop has collected so far. -/
def LstR (e : TypeId) (s : Nat) (w : World) (b0 base : Nat) (L : List (List Value)) (ao : Option Addr) (n cap : Nat) : Prop :=
  L.length = n ∧ b0 ≤ base ∧ (∀ r ∈ L, r.length = s) ∧ ((L = [] ∧ cap = 0 ∧ ∀ g, ob ao = some g → b0 ≤ g ∧ ∃ cs t, w.heap[g]? = some (.cells cs t (0, 0))) ∨ w.ownsRow base e s (.slice ao n cap) n L.flatten)
theorem LstR.nil (e : TypeId) (s : Nat) (w : World) {b0 base : Nat} (h : b0 ≤ base) : LstR e s w b0 base [] none 0 0 := ⟨rfl, h, by simp, .inl ⟨rfl, rfl, by simp [ob]⟩⟩
theorem LstR.empty {e : TypeId} {s : Nat} {w : World} {b0 base g : Nat} {t : TypeId} (h : b0 ≤ base) (hb : b0 ≤ g) (hg : w.heap[g]? = some (.cells #[] t (0, 0))) : LstR e s w b0 base [] (some ⟨g, 0, none⟩) 0 0 :=
  ⟨rfl, h, by simp, .inl ⟨rfl, rfl, fun g' e => by simp [ob] at e; subst e; exact ⟨hb, _, _, hg⟩⟩⟩
theorem LstR.gr {e : TypeId} {s : Nat} {w w' : World} {b0 base : Nat} {l : List (List Value)} {ao : Option Addr} {n cap : Nat} (h : LstR e s w b0 base l ao n cap) (hg : Gr w w' none) : LstR e s w' b0 base l ao n cap := by
  refine ⟨h.1, h.2.1, h.2.2.1, ?_⟩
  rcases h.2.2.2 with ⟨h1, h2, h3⟩ | h4
  · exact .inl ⟨h1, h2, fun g hgo => by
      obtain ⟨hb, cs, t, hc⟩ := h3 g hgo
      exact ⟨hb, cs, t, (hg.block g (lt_of_block hc) (by simp)).trans hc⟩⟩
  · exact .inr (h4.kept hg (by rw [ownBlock_slice]; cases ob ao <;> simp))
theorem LstR.base {e : TypeId} {s : Nat} {w : World} {b0 base base' : Nat} {l : List (List Value)} {ao : Option Addr} {n cap : Nat} (h : LstR e s w b0 base l ao n cap) (h0 : b0 ≤ base') (h1 : base' ≤ base) : LstR e s w b0 base' l ao n cap :=
  ⟨h.1, h0, h.2.2.1, h.2.2.2.elim .inl fun h4 => .inr (own_mono h4 h1)⟩
theorem flatten_get {s : Nat} : ∀ (L : List (List Value)), (∀ r ∈ L, r.length = s) → ∀ i (h : i < L.length) j v, (L[i])[j]? = some v → L.flatten[i * s + j]? = some v
  | r :: L, hr, 0, _, j, v, hv => by
    have hj := (List.getElem?_eq_some_iff.1 hv).1
    simp only [List.flatten_cons, Nat.zero_mul, Nat.zero_add]
    rw [List.getElem?_append_left (by simpa using hj)]
    simpa using hv
  | r :: L, hr, i + 1, h, j, v, hv => by
    have h1 : r.length = s := hr r (by simp)
    simp only [List.flatten_cons]
    rw [List.getElem?_append_right (by rw [h1, Nat.add_mul]; omega), h1, show (i + 1) * s + j - s = i * s + j from by rw [Nat.add_mul]; omega]
    exact flatten_get L (fun q hq => hr q (by simp [hq])) i (by simpa using h) j v (by simpa using hv)
theorem LstR.rows {e : TypeId} {s : Nat} {w : World} {b0 base : Nat} {l : List (List Value)} {ao : Option Addr} {n cap : Nat} (h : LstR e s w b0 base l ao n cap) : RowsAt s w Any l ao := by
  obtain ⟨hn, _, hr, h⟩ := h
  rcases h with ⟨h1, _⟩ | h4
  · subst h1; exact RowsAt.nil _ _ _ _
  · rcases h4.2 with ⟨hv, h0⟩ | ⟨g, cap', cur, hv, hb, hc, q1, q2, q3, q4⟩
    · have : l = [] := List.eq_nil_of_length_eq_zero (by omega)
      subst this; exact RowsAt.nil _ _ _ _
    · cases hv
      intro i hi
      refine ⟨g, 0, rfl, trivial, fun j v hv => ?_⟩
      rw [cell_of_row _ _ _ _ _ _ hc, Nat.zero_add]
      have := flatten_get l hr i hi j v hv
      rw [← q4] at this
      have hlt := (List.getElem?_eq_some_iff.1 this).1
      rw [List.getElem?_take_of_lt (by simp at hlt; omega)] at this
      simpa using this
theorem LstR.lt {e : TypeId} {s : Nat} {w : World} {b0 base : Nat} {l : List (List Value)} {ao : Option Addr} {n cap : Nat} (h : LstR e s w b0 base l ao n cap) : ∀ g, ob ao = some g → g < w.heap.size := by
  intro g hg
  rcases h.2.2.2 with ⟨_, _, h3⟩ | h4
  · obtain ⟨_, _, _, hc⟩ := h3 g hg
    exact lt_of_block hc
  · exact (own_block h4 g hg).2
theorem LstR.hand {e : TypeId} {s : Nat} {w w' : World} {base : Nat} {l l' : List (List Value)} {ao : Option Addr} {n cap : Nat} (h : LstR e s w' w.heap.size base l ao n cap) (hl : l' = l) (hg : Gr w w' none) : HandR s l' w (.returned (.slice ao n cap)) w' := by
  subst hl
  have hrows := h.rows
  obtain ⟨hn, hb, _, h⟩ := h
  subst hn
  refine ⟨ao, cap, rfl, hrows, ?_, ?_, hg⟩
  · intro g hgo
    rcases h with ⟨_, _, h3⟩ | h4
    · obtain ⟨hb, cs, t, hc⟩ := h3 g hgo
      exact ⟨hb, lt_of_block hc⟩
    · have := own_block h4 g hgo
      exact ⟨by omega, this.2⟩
  · intro x hx
    rcases h with ⟨_, _, h3⟩ | h4
    · obtain ⟨hb, cs, t, hc⟩ := h3 _ hx
      unfold World.frozen?
      rw [hc]
      simp
    · exact own_frozen h4 x hx
/-- append of one row. -/
theorem run_app_r (w0 w : World) (t ty : TypeId) (e : TypeId) (s bytes : Nat) (z : Value) (ht : Try.prog.underlying t = some (.slice e)) (hinfo : (Try.prog.info? e).map (fun i => (i.zero, i.size, i.bytes)) = some (some z, s, bytes)) (hzs : z.cells.size = s) (hs0 : 0 < s) (hby : bytes ≤ 100)
    (b0 base : Nat) (ao : Option Addr) (cap n : Nat) (L : List (List Value)) (r : List Value) (hown : LstR e s w0 b0 base L ao n cap) (h0 : Gr w0 w none)
    (bx cx : Nat) (cs : Array Value) (hc : w.heap[bx]? = some (.cells cs e (0, 0))) (hcs : cs.toList = r) (hr : r.length = s) (hone : ∀ u ∈ r, u.oneCell' = true) (hlen : n ≤ 2000000) (hbase : base ≤ w0.heap.size) :
    ∃ (g cap' : Nat) (w' : World), (Builtin.append_ #[t, t] ty #[.slice ao n cap, .slice (some ⟨bx, 0, none⟩) 1 cx]).run Try.prog w = .ok (.slice (some ⟨g, 0, none⟩) (n + 1) cap') w' ∧
      LstR e s w' b0 base (L ++ [r]) (some ⟨g, 0, none⟩) (n + 1) cap' ∧ (∀ a : World, Gr a w none → a.heap.size ≤ base → Gr a w' none) ∧ Gr w w' (ob ao) := by
  obtain ⟨i0, hi, hz0, hz1, hz2⟩ := info_parts hinfo
  subst hcs
  have hnews : ∀ k u, cs.toList[k]? = some u → w.cell? ((⟨bx, 0, none⟩ : Addr).add k) = some u := by
    intro k u hu
    have hadd : (⟨bx, 0, none⟩ : Addr).add k = ⟨bx, k, none⟩ := by unfold Addr.add; split <;> simp_all
    rw [hadd, cell_of_row _ _ _ _ _ _ hc]
    simpa using hu
  have hbw : base ≤ w.heap.size := by have := h0.size; omega
  have hb1 : (n + 1) * bytes ≤ 140737488355328 := by
    have : (n + 1) * bytes ≤ 2000001 * 100 := Nat.mul_le_mul (by omega) hby
    omega
  obtain ⟨hn, hb, hrs, hcase⟩ := hown
  have own : ∀ base', b0 ≤ base' → base ≤ base' → base' ≤ w.heap.size → w.ownsRow base' e s (.slice ao n cap) n L.flatten → ∃ (g cap' : Nat) (w' : World), (Builtin.append_ #[t, t] ty #[.slice ao n cap, .slice (some ⟨bx, 0, none⟩) 1 cx]).run Try.prog w = .ok (.slice (some ⟨g, 0, none⟩) (n + 1) cap') w' ∧
      LstR e s w' b0 base (L ++ [cs.toList]) (some ⟨g, 0, none⟩) (n + 1) cap' ∧ (∀ a : World, Gr a w none → a.heap.size ≤ base → Gr a w' none) ∧ Gr w w' (ob ao) := by
    intro base' hb0 hbb hbw' hrow
    obtain ⟨v', w', hrun, h1, h2, _⟩ := run_append_own (P := Try.prog) (w := w) base' t ty e i0 z s bytes ht hi hz0 hz1 hz2 hzs hs0 _ n _ hrow ⟨bx, 0, none⟩ 1 cx cs.toList (by simpa using hr) hnews hone (by unfold maxLen; omega) hb1 hbw'
    obtain ⟨g, cap', rfl⟩ := own_some h1 (by omega)
    refine ⟨g, cap', w', hrun, ⟨by simp [hn], hb, ?_, .inr ?_⟩, fun a ha hab => ha.trans h2 (fun r hr => .inr ?_), by rw [← ownBlock_slice ao n cap]; exact h2⟩
    · intro q hq
      rcases List.mem_append.1 hq with hq | hq
      · exact hrs q hq
      · simp at hq; subst hq; exact hr
    · rw [show (L ++ [cs.toList]).flatten = L.flatten ++ cs.toList from by simp]
      exact own_mono h1 hbb
    · rw [ownBlock_slice] at hr
      have := (own_block hrow r hr).1
      omega
  rcases hcase with ⟨e1, e2, e3⟩ | hrow
  · have hn0 : n = 0 := by rw [e1] at hn; simpa using hn.symm
    subst hn0 e2 e1
    cases ao with
    | none => exact own base hb (Nat.le_refl _) hbw ⟨by simp, .inl ⟨rfl, rfl⟩⟩
    | some b =>
      obtain ⟨v', w', hrun, h1, h2⟩ := run_append_arg_grows (P := Try.prog) (w := w) t ty e i0 z s bytes ht hi hz0 hz1 hz2 hzs hs0 b 0 0 [] (by simp) (by simp) ⟨bx, 0, none⟩ 1 cx cs.toList (by simpa using hr) hnews (by omega) (by unfold maxLen; omega) (by simpa using hb1)
      obtain ⟨g, cap', rfl⟩ := own_some h1 (by omega)
      exact ⟨g, cap', w', hrun, ⟨by simp, hb, by simpa using hr, .inr (by simpa using own_mono h1 hbw)⟩, fun a ha hab => ha.trans h2 (by simp), Gr.weaken h2⟩
  · exact own base hb (Nat.le_refl _) hbw (hrow.kept h0 (by rw [ownBlock_slice]; cases ob ao <;> simp))
/-- append of one row, in the walk. -/
theorem app_r (w0 w : World) {ops : Array Oper} {rest : List Oper} {o : Oper} {a : Act} {Q : Exit → Act → World → Prop} (hgd : o.guard = none) (x y : Operand) (t : TypeId)
    (ho : o.op = .call { callee := .builtin .append, args := #[x, y], argTypes := #[t, t] })
    (e : TypeId) (s bytes : Nat) (z : Value) (ht : Try.prog.underlying t = some (.slice e)) (hinfo : (Try.prog.info? e).map (fun i => (i.zero, i.size, i.bytes)) = some (some z, s, bytes)) (hzs : z.cells.size = s) (hs0 : 0 < s) (hby : bytes ≤ 100)
    (b0 base : Nat) (ao : Option Addr) (cap n : Nat) (L : List (List Value)) (r : List Value) (hs : a.eval x = .slice ao n cap) (hown : LstR e s w0 b0 base L ao n cap) (h0 : Gr w0 w none)
    (bx cx : Nat) (hx : a.eval y = .slice (some ⟨bx, 0, none⟩) 1 cx) (cs : Array Value) (hc : w.heap[bx]? = some (.cells cs e (0, 0))) (hcs : cs.toList = r) (hr : r.length = s) (hone : ∀ u ∈ r, u.oneCell' = true) (hlen : n ≤ 2000000) (hbase : base ≤ w0.heap.size)
    (h : ∀ (g cap' : Nat) (w' : World), LstR e s w' b0 base (L ++ [r]) (some ⟨g, 0, none⟩) (n + 1) cap' → (∀ a : World, Gr a w none → a.heap.size ≤ base → Gr a w' none) → Gr w w' (ob ao) →
      wpList Try.prog ops Q rest (a.put o.dst (.slice (some ⟨g, 0, none⟩) (n + 1) cap')) w') : wpList Try.prog ops Q (o :: rest) a w := by
  obtain ⟨g, cap', w', hrun, h1, h2, h3⟩ := run_app_r w0 w t o.type e s bytes z ht hinfo hzs hs0 hby b0 base ao cap n L r hown h0 bx cx cs hc hcs hr hone hlen hbase
  refine wpList_plain hgd fun K hK => ?_
  unfold Oper.wp
  simp [execOp, ho, resolve, invoke, builtin, hs, hx, hrun, Result.andThen]
  exact hK _ _ (h g cap' w' h1 h2 h3)
/-- The same as one step of a region that draws its order. -/
theorem step_app_r (w0 w : World) {ops : Array Oper} {o : Oper} {a : Act} {K : Act → World → Prop} {Q : Exit → Act → World → Prop} {E : Prop} (hgd : o.guard = none) (x y : Operand) (t : TypeId)
    (ho : o.op = .call { callee := .builtin .append, args := #[x, y], argTypes := #[t, t] })
    (e : TypeId) (s bytes : Nat) (z : Value) (ht : Try.prog.underlying t = some (.slice e)) (hinfo : (Try.prog.info? e).map (fun i => (i.zero, i.size, i.bytes)) = some (some z, s, bytes)) (hzs : z.cells.size = s) (hs0 : 0 < s) (hby : bytes ≤ 100)
    (b0 base : Nat) (ao : Option Addr) (cap n : Nat) (L : List (List Value)) (r : List Value) (hs : a.eval x = .slice ao n cap) (hown : LstR e s w0 b0 base L ao n cap) (h0 : Gr w0 w none)
    (bx cx : Nat) (hx : a.eval y = .slice (some ⟨bx, 0, none⟩) 1 cx) (cs : Array Value) (hc : w.heap[bx]? = some (.cells cs e (0, 0))) (hcs : cs.toList = r) (hr : r.length = s) (hone : ∀ u ∈ r, u.oneCell' = true) (hlen : n ≤ 2000000) (hbase : base ≤ w0.heap.size)
    (h : ∀ (g cap' : Nat) (w' : World), LstR e s w' b0 base (L ++ [r]) (some ⟨g, 0, none⟩) (n + 1) cap' → (∀ a : World, Gr a w none → a.heap.size ≤ base → Gr a w' none) → Gr w w' (ob ao) →
      K (a.put o.dst (.slice (some ⟨g, 0, none⟩) (n + 1) cap')) w') : if Region.wanted o (yielded ops a.tmps) = true then Oper.wp Try.prog o a w K Q else E := by
  obtain ⟨g, cap', w', hrun, h1, h2, h3⟩ := run_app_r w0 w t o.type e s bytes z ht hinfo hzs hs0 hby b0 base ao cap n L r hown h0 bx cx cs hc hcs hr hone hlen hbase
  have hw : Region.wanted o (yielded ops a.tmps) = true := by simp [Region.wanted, hgd]
  rw [if_pos hw]
  unfold Oper.wp
  simp [execOp, ho, resolve, invoke, builtin, hs, hx, hrun, Result.andThen]
  exact h g cap' w' h1 h2 h3
end Go.Proofs.Ytadidppbhpdnkaa

namespace Go.Proofs.Ytadidppbhpdnkaa

open Go.RowKit

/-- The rows are those of Loan. -/
def IsLoan (L : List (List Value)) : Prop := ∀ r ∈ L, ∃ (x0 : Int) (x1 : Bool) (x2 : Int), r = [.int .i64 x0, .bool x1, .int .i64 x2]
/-- What the marks are, in row i. -/
def mkLoan (k : Int) (i : Nat) : List Value := [.int .i64 (k + 3 * (i : Nat)), .bool ((k + 3 * (i : Nat) + 1) % 3 == 0), .int .i64 (k + 3 * (i : Nat) + 1 + 1)]
/-- Rows of this kind lie there, in blocks D. -/
def AtLoan (w : World) (D : Nat → Prop) (n : Nat) (a : Option Addr) : Prop := ∀ i, i < n → ∃ b off, a = some ⟨b, off, none⟩ ∧ D b ∧ ∃ (x0 : Int) (x1 : Bool) (x2 : Int), w.cell? ⟨b, off + i * 3, none⟩ = some (.int .i64 x0) ∧ w.cell? ⟨b, off + i * 3 + 1, none⟩ = some (.bool x1) ∧ w.cell? ⟨b, off + i * 3 + 2, none⟩ = some (.int .i64 x2)
theorem RowsAt.atLoan {w : World} {D : Nat → Nat → Prop} {P : Nat → Prop} {L : List (List Value)} {a : Option Addr} (h : RowsAt 3 w D L a) (hK : IsLoan L) (hD : ∀ b o, D b o → P b) : AtLoan w P L.length a := by
  intro i hi
  obtain ⟨b, off, e, hd, hv⟩ := h i hi
  obtain ⟨x0, x1, x2, er⟩ := hK L[i] (List.getElem_mem hi)
  rw [er] at hv
  exact ⟨b, off, e, hD _ _ hd, x0, x1, x2, hv 0 _ rfl, hv 1 _ rfl, hv 2 _ rfl⟩
theorem AtLoan.gr {w w' : World} {P : Nat → Prop} {n : Nat} {a : Option Addr} (h : AtLoan w P n a) (hg : Gr w w' none) : AtLoan w' P n a := by
  intro i hi
  obtain ⟨b, off, e, hd, x0, x1, x2, c0, c1, c2⟩ := h i hi
  exact ⟨b, off, e, hd, x0, x1, x2, hg.cell c0 (by simp), hg.cell c1 (by simp), hg.cell c2 (by simp)⟩
/-- The marked rows lie there. -/
def MkLoan (w : World) (D : Nat → Prop) (k : Int) (n : Nat) (a : Option Addr) : Prop := ∀ i, i < n → ∃ b off, a = some ⟨b, off, none⟩ ∧ D b ∧ ∀ j v, (mkLoan k i)[j]? = some v → w.cell? ⟨b, off + i * 3 + j, none⟩ = some v
theorem MkLoan.gr {w w' : World} {P : Nat → Prop} {k : Int} {n : Nat} {a : Option Addr} (h : MkLoan w P k n a) (hg : Gr w w' none) : MkLoan w' P k n a := by
  intro i hi
  obtain ⟨b, off, e, hd, hv⟩ := h i hi
  exact ⟨b, off, e, hd, fun j v hj => hg.cell (hv j v hj) (by simp)⟩
def MarkedLoan (P : Nat → Prop) (n : Nat) (a : Option Addr) (k : Int) (w : World) (e : Ending) (w' : World) : Prop :=
  e = .returned (.int .i64 (k + 3 * (n : Nat))) ∧ Wr P w w' ∧ MkLoan w' P k n a
def setLoan (w : World) (b o : Nat) (y0 y1 y2 : Value) : World := (((w.setCell ⟨b, o, none⟩ y0).setCell ⟨b, o + 1, none⟩ y1).setCell ⟨b, o + 2, none⟩ y2)
theorem wrLoan {w : World} {P : Nat → Prop} {b o : Nat} {y0 y1 y2 z0 z1 z2 : Value} (hp : P b) (c0 : w.cell? ⟨b, o, none⟩ = some y0) (c1 : w.cell? ⟨b, o + 1, none⟩ = some y1) (c2 : w.cell? ⟨b, o + 2, none⟩ = some y2) (l0 : Like y0 z0) (l1 : Like y1 z1) (l2 : Like y2 z2) : Wr P w (setLoan w b o z0 z1 z2) := by
  have h0 : Wr P w (w.setCell ⟨b, o, none⟩ z0) := Wr.set hp c0 l0
  obtain ⟨_, e1, m1⟩ := h0.like _ _ c1
  have h1 := h0.trans (Wr.set (u := z1) hp e1 (like_same m1 l1))
  obtain ⟨_, e2, m2⟩ := h1.like _ _ c2
  have h2 := h1.trans (Wr.set (u := z2) hp e2 (like_same m2 l2))
  exact h2
theorem setLoan_at {w : World} {b o : Nat} {y0 y1 y2 : Value} (h : ∀ j, j < 3 → (w.cell? ⟨b, o + j, none⟩).isSome = true) : ∀ j v, [y0, y1, y2][j]? = some v → (setLoan w b o y0 y1 y2).cell? ⟨b, o + j, none⟩ = some v := by
  intro j v hj
  have hlt := (List.getElem?_eq_some_iff.1 hj).1
  unfold setLoan
  match j, hlt with
  | 0, _ => simp at hj; subst hj; rw [World.cell?_setCell_other _ _ _ _ (by simp)]; rw [World.cell?_setCell_other _ _ _ _ (by simp)]; refine World.cell?_setCell_same' _ _ _ ?_; exact h 0 (by omega)
  | 1, _ => simp at hj; subst hj; rw [World.cell?_setCell_other _ _ _ _ (by simp)]; refine World.cell?_setCell_same' _ _ _ ?_; rw [World.cell?_setCell_other _ _ _ _ (by simp)]; exact h 1 (by omega)
  | 2, _ => simp at hj; subst hj; refine World.cell?_setCell_same' _ _ _ ?_; rw [World.cell?_setCell_other _ _ _ _ (by simp)]; rw [World.cell?_setCell_other _ _ _ _ (by simp)]; exact h 2 (by omega)
theorem setLoan_off {w : World} {b o : Nat} {y0 y1 y2 : Value} {x : Addr} (h : x.block = b → x.spot = none → x.off < o ∨ o + 3 ≤ x.off) : (setLoan w b o y0 y1 y2).cell? x = w.cell? x := by
  unfold setLoan
  obtain ⟨xb, xo, xs⟩ := x
  simp only at h
  rw [World.cell?_setCell_other _ _ _ _ (by intro e; cases e; have := h rfl rfl; omega)]
  rw [World.cell?_setCell_other _ _ _ _ (by intro e; cases e; have := h rfl rfl; omega)]
  rw [World.cell?_setCell_other _ _ _ _ (by intro e; cases e; have := h rfl rfl; omega)]
end Go.Proofs.Ytadidppbhpdnkaa

namespace Go.Proofs.Ytadidppbhpdnkaa

open Go.RowKit

/-- The rows are those of Bound. -/
def IsBound (L : List (List Value)) : Prop := ∀ r ∈ L, ∃ (x0 : Int) (x1 : Int) (x2 : Int), r = [.int .i64 x0, .int .i64 x1, .int .i64 x2]
/-- What the marks are, in row i. -/
def mkBound (k : Int) (i : Nat) : List Value := [.int .i64 (k + 3 * (i : Nat)), .int .i64 (k + 3 * (i : Nat) + 1), .int .i64 (k + 3 * (i : Nat) + 1 + 1)]
/-- Rows of this kind lie there, in blocks D. -/
def AtBound (w : World) (D : Nat → Prop) (n : Nat) (a : Option Addr) : Prop := ∀ i, i < n → ∃ b off, a = some ⟨b, off, none⟩ ∧ D b ∧ ∃ (x0 : Int) (x1 : Int) (x2 : Int), w.cell? ⟨b, off + i * 3, none⟩ = some (.int .i64 x0) ∧ w.cell? ⟨b, off + i * 3 + 1, none⟩ = some (.int .i64 x1) ∧ w.cell? ⟨b, off + i * 3 + 2, none⟩ = some (.int .i64 x2)
theorem RowsAt.atBound {w : World} {D : Nat → Nat → Prop} {P : Nat → Prop} {L : List (List Value)} {a : Option Addr} (h : RowsAt 3 w D L a) (hK : IsBound L) (hD : ∀ b o, D b o → P b) : AtBound w P L.length a := by
  intro i hi
  obtain ⟨b, off, e, hd, hv⟩ := h i hi
  obtain ⟨x0, x1, x2, er⟩ := hK L[i] (List.getElem_mem hi)
  rw [er] at hv
  exact ⟨b, off, e, hD _ _ hd, x0, x1, x2, hv 0 _ rfl, hv 1 _ rfl, hv 2 _ rfl⟩
theorem AtBound.gr {w w' : World} {P : Nat → Prop} {n : Nat} {a : Option Addr} (h : AtBound w P n a) (hg : Gr w w' none) : AtBound w' P n a := by
  intro i hi
  obtain ⟨b, off, e, hd, x0, x1, x2, c0, c1, c2⟩ := h i hi
  exact ⟨b, off, e, hd, x0, x1, x2, hg.cell c0 (by simp), hg.cell c1 (by simp), hg.cell c2 (by simp)⟩
/-- The marked rows lie there. -/
def MkBound (w : World) (D : Nat → Prop) (k : Int) (n : Nat) (a : Option Addr) : Prop := ∀ i, i < n → ∃ b off, a = some ⟨b, off, none⟩ ∧ D b ∧ ∀ j v, (mkBound k i)[j]? = some v → w.cell? ⟨b, off + i * 3 + j, none⟩ = some v
theorem MkBound.gr {w w' : World} {P : Nat → Prop} {k : Int} {n : Nat} {a : Option Addr} (h : MkBound w P k n a) (hg : Gr w w' none) : MkBound w' P k n a := by
  intro i hi
  obtain ⟨b, off, e, hd, hv⟩ := h i hi
  exact ⟨b, off, e, hd, fun j v hj => hg.cell (hv j v hj) (by simp)⟩
def MarkedBound (P : Nat → Prop) (n : Nat) (a : Option Addr) (k : Int) (w : World) (e : Ending) (w' : World) : Prop :=
  e = .returned (.int .i64 (k + 3 * (n : Nat))) ∧ Wr P w w' ∧ MkBound w' P k n a
def setBound (w : World) (b o : Nat) (y0 y1 y2 : Value) : World := (((w.setCell ⟨b, o, none⟩ y0).setCell ⟨b, o + 1, none⟩ y1).setCell ⟨b, o + 2, none⟩ y2)
theorem wrBound {w : World} {P : Nat → Prop} {b o : Nat} {y0 y1 y2 z0 z1 z2 : Value} (hp : P b) (c0 : w.cell? ⟨b, o, none⟩ = some y0) (c1 : w.cell? ⟨b, o + 1, none⟩ = some y1) (c2 : w.cell? ⟨b, o + 2, none⟩ = some y2) (l0 : Like y0 z0) (l1 : Like y1 z1) (l2 : Like y2 z2) : Wr P w (setBound w b o z0 z1 z2) := by
  have h0 : Wr P w (w.setCell ⟨b, o, none⟩ z0) := Wr.set hp c0 l0
  obtain ⟨_, e1, m1⟩ := h0.like _ _ c1
  have h1 := h0.trans (Wr.set (u := z1) hp e1 (like_same m1 l1))
  obtain ⟨_, e2, m2⟩ := h1.like _ _ c2
  have h2 := h1.trans (Wr.set (u := z2) hp e2 (like_same m2 l2))
  exact h2
theorem setBound_at {w : World} {b o : Nat} {y0 y1 y2 : Value} (h : ∀ j, j < 3 → (w.cell? ⟨b, o + j, none⟩).isSome = true) : ∀ j v, [y0, y1, y2][j]? = some v → (setBound w b o y0 y1 y2).cell? ⟨b, o + j, none⟩ = some v := by
  intro j v hj
  have hlt := (List.getElem?_eq_some_iff.1 hj).1
  unfold setBound
  match j, hlt with
  | 0, _ => simp at hj; subst hj; rw [World.cell?_setCell_other _ _ _ _ (by simp)]; rw [World.cell?_setCell_other _ _ _ _ (by simp)]; refine World.cell?_setCell_same' _ _ _ ?_; exact h 0 (by omega)
  | 1, _ => simp at hj; subst hj; rw [World.cell?_setCell_other _ _ _ _ (by simp)]; refine World.cell?_setCell_same' _ _ _ ?_; rw [World.cell?_setCell_other _ _ _ _ (by simp)]; exact h 1 (by omega)
  | 2, _ => simp at hj; subst hj; refine World.cell?_setCell_same' _ _ _ ?_; rw [World.cell?_setCell_other _ _ _ _ (by simp)]; rw [World.cell?_setCell_other _ _ _ _ (by simp)]; exact h 2 (by omega)
theorem setBound_off {w : World} {b o : Nat} {y0 y1 y2 : Value} {x : Addr} (h : x.block = b → x.spot = none → x.off < o ∨ o + 3 ≤ x.off) : (setBound w b o y0 y1 y2).cell? x = w.cell? x := by
  unfold setBound
  obtain ⟨xb, xo, xs⟩ := x
  simp only at h
  rw [World.cell?_setCell_other _ _ _ _ (by intro e; cases e; have := h rfl rfl; omega)]
  rw [World.cell?_setCell_other _ _ _ _ (by intro e; cases e; have := h rfl rfl; omega)]
  rw [World.cell?_setCell_other _ _ _ _ (by intro e; cases e; have := h rfl rfl; omega)]
end Go.Proofs.Ytadidppbhpdnkaa

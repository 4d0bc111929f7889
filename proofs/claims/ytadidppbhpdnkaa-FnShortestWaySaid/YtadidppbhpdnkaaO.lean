/- What a call owns: one law for append; the points of a program, owned and read. No walk stands here. -/
import Derived.Test.YtadidppbhpdnkaaD

import Derived.ArgAppend

namespace Go.Proofs.Ytadidppbhpdnkaa

open Go.RowKit

theorem own_mono {w : World} {b b' : Nat} {e : TypeId} {size : Nat} {v : Value} {n : Nat} {xs : List Value} (h : w.ownsRow b e size v n xs) (hb : b' ≤ b) : w.ownsRow b' e size v n xs := by
  refine ⟨h.1, ?_⟩
  rcases h.2 with h2 | ⟨g, cap, cur, hv, hg, r⟩
  · exact .inl h2
  · exact .inr ⟨g, cap, cur, hv, by omega, r⟩
theorem own_some {w : World} {b : Nat} {e : TypeId} {size : Nat} {v : Value} {n : Nat} {xs : List Value} (h : w.ownsRow b e size v n xs) (hn : 0 < n) : ∃ g cap, v = .slice (some ⟨g, 0, none⟩) n cap := by
  rcases h.2 with ⟨_, h2⟩ | ⟨g, cap, cur, hv, _⟩
  · omega
  · exact ⟨g, cap, hv⟩
/-- The block in which a slice's address lies. -/
def ob (a : Option Addr) : Option Nat := a.map Addr.block
theorem ownBlock_slice (a : Option Addr) (n c : Nat) : (Value.slice a n c).ownBlock = ob a := by cases a <;> rfl

/-- append of m > 0 elements to a slice that the call owns: it stays where it was, or moves to a new block. -/
theorem app_own {P : Program} (w : World) {ops : Array Oper} {rest : List Oper} {o : Oper} {a : Act} {Q : Exit → Act → World → Prop} (hgd : o.guard = none) (s x : Operand) (t : TypeId)
    (ho : o.op = .call { callee := .builtin .append, args := #[s, x], argTypes := #[t, t] })
    (base : Nat) (e : TypeId) (i : TypeInfo) (z : Value) (size bytes : Nat) (ht : P.underlying t = some (.slice e)) (hi : P.info? e = some i) (hz : i.zero = some z)
    (hsize : i.size = size) (hby : i.bytes = bytes) (hzs : z.cells.size = size) (hsz : 0 < size)
    (ao : Option Addr) (n cap : Nat) (xs : List Value) (hs : a.eval s = .slice ao n cap) (hown : w.ownsRow base e size (.slice ao n cap) n xs)
    (ad : Addr) (m c : Nat) (news : List Value) (hx : a.eval x = .slice (some ad) m c) (hl : news.length = m * size) (hnews : ∀ j u, news[j]? = some u → w.cell? (ad.add j) = some u) (h1 : ∀ u ∈ news, u.oneCell' = true)
    (h63 : n + m ≤ maxLen) (hbytes : (n + m) * bytes ≤ 140737488355328) (hbase : base ≤ w.heap.size) (hm : 0 < m)
    (h : ∀ (g cap' : Nat) (w' : World), w'.ownsRow base e size (.slice (some ⟨g, 0, none⟩) (n + m) cap') (n + m) (xs ++ news) → w.grownBy w' (ob ao) → (ob ao = some g ∨ w.heap.size ≤ g) →
      wpList P ops Q rest (a.put o.dst (.slice (some ⟨g, 0, none⟩) (n + m) cap')) w') : wpList P ops Q (o :: rest) a w := by
  have grows : ∀ (hnone : ao = none → n = 0 ∧ cap = 0) (holds : ∀ b, ao = some b → ∀ j u, xs[j]? = some u → w.cell? (b.add j) = some u), cap < n + m → wpList P ops Q (o :: rest) a w := by
    intro hnone holds hfull
    refine wpList_append_grows w hgd s x t ho e i z size bytes ht hi hz hsize hby hzs hsz ao n cap xs hs hnone hown.1 holds ad m c news hx hl hnews h1 hfull h63 hbytes ?_
    intro v' w' h2 h3
    obtain ⟨g, cap', rfl⟩ := own_some h2 (by omega)
    refine h g cap' w' (own_mono h2 hbase) ⟨h3.os, h3.tape, h3.output, h3.size, fun k hk _ => h3.block k hk (by simp)⟩ (.inr ?_)
    rcases h2.2 with ⟨h4, _⟩ | ⟨g', _, _, h4, h5, _⟩
    · simp at h4
    · simp at h4; omega
  rcases hown.2 with ⟨hv, hn⟩ | ⟨g, cap2, cur, hv, hbg, hg, hnc, hcm, hcs, htake⟩
  · simp only [Value.slice.injEq] at hv
    obtain ⟨rfl, rfl, rfl⟩ := hv
    exact grows (fun _ => ⟨rfl, rfl⟩) (by simp) (by omega)
  · simp only [Value.slice.injEq] at hv
    obtain ⟨rfl, _, rfl⟩ := hv
    by_cases hroom : n + m ≤ cap
    · refine wpList_append_fits w hgd s x t ho base e i size ht hi hsize g n cap xs hs hown ad m c news hx hl hnews h1 hroom ?_
      intro w' h2 h3
      exact h g cap w' h2 h3 (.inl rfl)
    · exact grows (by simp) (by rintro b hb; simp at hb; subst hb; exact hown.cells (g := g) rfl) (by omega)

/-! ### Points -/

structure Pt where
  op : Int
  x : Int
  y : Int
  n : Int
  next : List Nat
def ptC (p : Pt) (nv : Value) : List Value := [.int .i64 p.op, .int .i64 p.x, .int .i64 p.y, .int .i64 p.n, nv]
def flat : List Pt → List Value → List Value
  | p :: r, v :: vs => ptC p v ++ flat r vs
  | _, _ => []
theorem flat_length : ∀ (l : List Pt) (nv : List Value), nv.length = l.length → (flat l nv).length = l.length * 5
  | [], _, _ => by simp [flat]
  | p :: r, v :: vs, h => by
    have := flat_length r vs (by simpa using h)
    simp only [flat, ptC, List.length_append, List.length_cons, List.length_nil, this]; omega
  | p :: r, [], h => by simp at h
theorem flat_snoc : ∀ (l : List Pt) (nv : List Value) (p : Pt) (v : Value), nv.length = l.length → flat (l ++ [p]) (nv ++ [v]) = flat l nv ++ ptC p v
  | [], nv, p, v, h => by
    have : nv = [] := List.eq_nil_of_length_eq_zero (by simpa using h)
    subst this; simp [flat]
  | q :: r, u :: vs, p, v, h => by simp [flat, flat_snoc r vs p v (by simpa using h)]
  | q :: r, [], p, v, h => by simp at h
theorem flat_get : ∀ (l : List Pt) (nv : List Value) (i j : Nat) (h : nv.length = l.length) (hi : i < l.length), j < 5 → (flat l nv)[i * 5 + j]? = (ptC l[i] (nv[i]'(by omega)))[j]?
  | p :: r, v :: vs, 0, j, h, hi, hj => by
    simp only [flat, Nat.zero_mul, Nat.zero_add, List.getElem_cons_zero]
    rw [List.getElem?_append_left (by simpa [ptC] using hj)]
  | p :: r, v :: vs, i + 1, j, h, hi, hj => by
    simp only [flat, List.getElem_cons_succ]
    rw [List.getElem?_append_right (by simp [ptC]; omega)]
    have := flat_get r vs i j (by simpa using h) (by simpa using hi) hj
    rw [← this]
    congr 1
    simp [ptC]; omega
  | p :: r, [], _, _, h, _, _ => by simp at h
theorem flat_set : ∀ (l : List Pt) (nv : List Value) (i : Nat) (v : Value) (ns : List Nat) (_ : nv.length = l.length) (hi : i < l.length),
    (flat l nv).set (i * 5 + 4) v = flat (l.set i { l[i] with next := ns }) (nv.set i v)
  | p :: r, u :: vs, 0, v, ns, h, hi => by simp [flat, ptC]
  | p :: r, u :: vs, i + 1, v, ns, h, hi => by
    have := flat_set r vs i v ns (by simpa using h) (by simpa using hi)
    simp only [flat, List.getElem_cons_succ, List.set_cons_succ]
    rw [← this, List.set_append_right _ _ (by simp [ptC]; omega)]
    congr 2
    simp [ptC]; omega
  | p :: r, [], _, _, _, h, _ => by simp at h

/-- The list of the points that can come next, of the call's own: nil, or a block of its own. -/
def NextAt (w : World) (base : Nat) (v : Value) (next : List Nat) : Prop :=
  (next = [] ∧ v = .slice none 0 0) ∨
  ∃ g, v = .slice (some ⟨g, 0, none⟩) next.length next.length ∧ base ≤ g ∧ w.heap[g]? = some (.cells (next.map fun k => Value.int .i64 (k : Nat)).toArray 3 (0, 0))
theorem NextAt.lt {w : World} {base : Nat} {v : Value} {next : List Nat} (h : NextAt w base v next) : ∀ g, v.ownBlock = some g → base ≤ g ∧ g < w.heap.size ∧ ∃ cs, w.heap[g]? = some (.cells cs 3 (0, 0)) := by
  intro g hg
  rcases h with ⟨_, rfl⟩ | ⟨g', rfl, hb, hh⟩
  · simp [Value.ownBlock] at hg
  · simp [Value.ownBlock] at hg
    subst hg
    exact ⟨hb, (Array.getElem?_eq_some_iff.1 hh).1, _, hh⟩
theorem NextAt.gr {w w' : World} {base : Nat} {v : Value} {next : List Nat} {row : Option Nat} (h : NextAt w base v next) (hg : Gr w w' row) (hr : ∀ g, v.ownBlock = some g → row ≠ some g) : NextAt w' base v next := by
  rcases h with h | ⟨g, rfl, hb, hh⟩
  · exact .inl h
  · exact .inr ⟨g, rfl, hb, by rw [hg.block g (Array.getElem?_eq_some_iff.1 hh).1 (fun e => hr g rfl e.symm)]; exact hh⟩

/-- The points l, owned: the slice's address and capacity. -/
def PtsOwn (w : World) (base : Nat) (ao : Option Addr) (cap : Nat) (l : List Pt) : Prop :=
  ∃ nv : List Value, ∃ hl : nv.length = l.length, w.ownsRow base 44 5 (.slice ao l.length cap) l.length (flat l nv) ∧
    (∀ i (h : i < l.length), NextAt w base (nv[i]'(by omega)) l[i].next) ∧
    (∀ i j g : Nat, i ≠ j → (nv[i]?).bind Value.ownBlock = some g → (nv[j]?).bind Value.ownBlock ≠ some g)
theorem PtsOwn.nil (w : World) (base : Nat) : PtsOwn w base none 0 [] :=
  ⟨[], rfl, World.ownsRow_nil w base _ 5, by simp, by simp⟩

theorem PtsOwn.row {w : World} {base : Nat} {ao : Option Addr} {cap : Nat} {l : List Pt} (h : PtsOwn w base ao cap l) :
    ∀ g, ob ao = some g → base ≤ g ∧ g < w.heap.size ∧ ∃ cs, w.heap[g]? = some (.cells cs 44 (0, 0)) := by
  obtain ⟨nv, hl, ho, _⟩ := h
  intro g hg
  rcases ho.2 with ⟨h1, _⟩ | ⟨g', cap', cur, h1, hb, hh, _⟩
  · simp at h1; rw [h1.1] at hg; simp [ob] at hg
  · simp at h1; rw [h1.1] at hg; simp [ob] at hg; subst hg
    exact ⟨hb, (Array.getElem?_eq_some_iff.1 hh).1, _, hh⟩
/-- What the points own stays, where their row is not written and no block of integers of theirs is. -/
theorem PtsOwn.gr {w w' : World} {base : Nat} {ao : Option Addr} {cap : Nat} {l : List Pt} {row : Option Nat} (h : PtsOwn w base ao cap l) (hg : Gr w w' row)
    (hr : ∀ g, row = some g → ∀ cs t, w.heap[g]? = some (.cells cs t (0, 0)) → t ≠ 44 ∧ t ≠ 3) : PtsOwn w' base ao cap l := by
  have hrow := h.row
  obtain ⟨nv, hl, ho, hn, hd⟩ := h
  refine ⟨nv, hl, ho.kept hg ?_, fun i hi => (hn i hi).gr hg ?_, hd⟩
  · rw [ownBlock_slice]
    cases ha : ob ao with
    | none => exact .inl rfl
    | some g => exact .inr (fun e => by obtain ⟨_, _, cs, hc⟩ := hrow g ha; exact (hr g e.symm cs _ hc).1 rfl)
  · intro g hgg e
    obtain ⟨_, _, cs, hc⟩ := (hn i hi).lt g hgg
    exact (hr g e cs _ hc).2 rfl
theorem PtsOwn.gr0 {w w' : World} {base : Nat} {ao : Option Addr} {cap : Nat} {l : List Pt} (h : PtsOwn w base ao cap l) (hg : Gr w w' none) : PtsOwn w' base ao cap l := h.gr hg (by simp)

/-- What append's law leaves: one point more. v's block is none of those that are there. -/
theorem PtsOwn.snoc {w0 w w' : World} {base : Nat} {ao : Option Addr} {cap g cap' : Nat} {l : List Pt} (p : Pt) (v : Value) (h : PtsOwn w0 base ao cap l) (h0 : Gr w0 w none) (hg : Gr w w' (ob ao))
    (hv : NextAt w base v p.next) (hnew : ∀ b, v.ownBlock = some b → w0.heap.size ≤ b)
    (ho : ∀ nv : List Value, nv.length = l.length → w.ownsRow base 44 5 (.slice ao l.length cap) l.length (flat l nv) →
      w'.ownsRow base 44 5 (.slice (some ⟨g, 0, none⟩) (l.length + 1) cap') (l.length + 1) (flat l nv ++ ptC p v)) :
    PtsOwn w' base (some ⟨g, 0, none⟩) cap' (l ++ [p]) := by
  have hrow := h.row
  obtain ⟨nv, hl, hown, hn, hd⟩ := h
  have hownw : w.ownsRow base 44 5 (.slice ao l.length cap) l.length (flat l nv) := hown.kept h0 (by rw [ownBlock_slice]; cases ob ao <;> simp)
  have hne : ∀ (u : Value) (q : List Nat), NextAt w0 base u q → ∀ b, u.ownBlock = some b → ob ao ≠ some b := by
    intro u q hu b hb e
    obtain ⟨_, _, cs, hc⟩ := hu.lt b hb
    obtain ⟨_, _, cs', hc'⟩ := hrow b e
    rw [hc] at hc'
    simp at hc'
  refine ⟨nv ++ [v], by simp [hl], ?_, ?_, ?_⟩
  · have := ho nv hl hownw
    rw [flat_snoc _ _ _ _ hl]
    simpa using this
  · intro i hi
    by_cases hlt : i < l.length
    · rw [List.getElem_append_left (by omega)]
      rw [List.getElem_append_left hlt]
      exact ((hn i hlt).gr h0 (by simp)).gr hg (fun b hb => hne _ _ (hn i hlt) b hb)
    · have : i = l.length := by simp at hi; omega
      subst this
      rw [List.getElem_append_right (by omega), List.getElem_append_right (by omega)]
      simp only [hl, Nat.sub_self, List.getElem_cons_zero]
      refine hv.gr hg (fun b hb e => ?_)
      obtain ⟨_, hlt', _⟩ := hrow b e
      have := hnew b hb
      omega
  · intro i j b hij hi hj
    have key : ∀ k : Nat, (nv[k]?).bind Value.ownBlock = some b → b < w0.heap.size := by
      intro k hk
      cases hkk : nv[k]? with
      | none => rw [hkk] at hk; simp at hk
      | some u =>
        rw [hkk] at hk
        obtain ⟨hlt, rfl⟩ := List.getElem?_eq_some_iff.1 hkk
        exact ((hn k (by omega)).lt b hk).2.1
    by_cases h1 : i < l.length
    · rw [List.getElem?_append_left (by omega)] at hi
      by_cases h2 : j < l.length
      · rw [List.getElem?_append_left (by omega)] at hj
        exact hd i j b hij hi hj
      · rw [List.getElem?_append_right (by omega)] at hj
        by_cases h3 : j = l.length
        · subst h3
          rw [hl, Nat.sub_self] at hj
          have := hnew b (by simpa using hj)
          have := key i hi
          omega
        · rw [List.getElem?_eq_none (by simp; omega)] at hj; simp at hj
    · rw [List.getElem?_append_right (by omega)] at hi
      by_cases h3 : i = l.length
      · subst h3
        rw [hl, Nat.sub_self] at hi
        have := hnew b (by simpa using hi)
        by_cases h2 : j < l.length
        · rw [List.getElem?_append_left (by omega)] at hj
          have := key j hj
          omega
        · rw [List.getElem?_append_right (by omega), List.getElem?_eq_none (by simp; omega)] at hj; simp at hj
      · rw [List.getElem?_eq_none (by simp; omega)] at hi; simp at hi

/-- A point's list is stored: a block that is new. -/
theorem PtsOwn.setNext {w w1 : World} {base g cap i : Nat} {l : List Pt} {v : Value} {ns : List Nat} (h : PtsOwn w base (some ⟨g, 0, none⟩) cap l) (hi : i < l.length)
    (hw1 : Gr (w.setCell ⟨g, i * 5 + 4, none⟩ v) w1 none) (hv : NextAt w1 base v ns) (hnew : ∀ b, v.ownBlock = some b → w.heap.size ≤ b) :
    PtsOwn w1 base (some ⟨g, 0, none⟩) cap (l.set i { l[i] with next := ns }) := by
  have hrow := h.row
  obtain ⟨nv, hl, hown, hn, hd⟩ := h
  have hs : Gr w (w.setCell ⟨g, i * 5 + 4, none⟩ v) (some g) := (Gr.refl _ _).setOwn rfl _
  have hst := (hown.stored (i * 5 + 4) v).1
  have hne : ∀ (u : Value) (q : List Nat), NextAt w base u q → ∀ b, u.ownBlock = some b → some g ≠ some b := by
    intro u q hu b hb e
    obtain ⟨_, _, cs, hc⟩ := hu.lt b hb
    obtain ⟨_, _, cs', hc'⟩ := hrow b (by simp [ob]; exact Option.some.inj e)
    rw [hc] at hc'
    simp at hc'
  refine ⟨nv.set i v, by simp [hl], ?_, ?_, ?_⟩
  · rw [flat_set l nv i v ns hl hi] at hst
    have := hst.kept hw1 (by rw [ownBlock_slice]; simp [ob])
    simpa using this
  · intro k hk
    have hk' : k < l.length := by simpa using hk
    by_cases hki : k = i
    · subst hki
      simp only [List.getElem_set_self]
      exact hv
    · rw [List.getElem_set_ne (by omega), List.getElem_set_ne (by omega)]
      exact ((hn k hk').gr hs (fun b hb => hne _ _ (hn k hk') b hb)).gr hw1 (by simp)
  · intro k j b hkj hk hj
    have key : ∀ k : Nat, (nv[k]?).bind Value.ownBlock = some b → b < w.heap.size := by
      intro k hk
      cases hkk : nv[k]? with
      | none => rw [hkk] at hk; simp at hk
      | some u =>
        rw [hkk] at hk
        obtain ⟨hlt, rfl⟩ := List.getElem?_eq_some_iff.1 hkk
        exact ((hn k (by omega)).lt b hk).2.1
    rw [List.getElem?_set] at hk hj
    by_cases h1 : i = k
    · rw [if_pos h1] at hk
      have : (i : Nat) < nv.length := by omega
      rw [if_pos this] at hk
      have := hnew b (by simpa using hk)
      rw [if_neg (by omega)] at hj
      have := key j hj
      omega
    · rw [if_neg h1] at hk
      by_cases h2 : i = j
      · rw [if_pos h2] at hj
        have : (i : Nat) < nv.length := by omega
        rw [if_pos this] at hj
        have := hnew b (by simpa using hj)
        have := key k hk
        omega
      · rw [if_neg h2] at hj
        exact hd k j b hkj hk hj

/-! ### Points that are read -/

def zs (l : List Nat) : List Int := l.map fun (k : Nat) => (k : Int)
theorem zs_length (l : List Nat) : (zs l).length = l.length := by simp [zs]
theorem zs_get (l : List Nat) (i : Nat) (h : i < (zs l).length) : (zs l)[i] = ((l[i]'(by simpa [zs] using h) : Nat) : Int) := by simp [zs]
/-- Point p lies from b, off on. -/
def PtAt (w : World) (p : Pt) (b off : Nat) : Prop := ∃ an cn,
  w.cell? ⟨b, off, none⟩ = some (.int .i64 p.op) ∧ w.cell? ⟨b, off + 1, none⟩ = some (.int .i64 p.x) ∧ w.cell? ⟨b, off + 2, none⟩ = some (.int .i64 p.y) ∧ w.cell? ⟨b, off + 3, none⟩ = some (.int .i64 p.n) ∧
  w.cell? ⟨b, off + 4, none⟩ = some (.slice an p.next.length cn) ∧ InAt w Any (zs p.next) an ∧ p.next.length ≤ cn
def PtsAt (w : World) (l : List Pt) (a : Option Addr) : Prop := ∀ i (h : i < l.length), ∃ b off, a = some ⟨b, off, none⟩ ∧ PtAt w l[i] b (off + i * 5)
theorem PtsAt.gr {w w' : World} {l : List Pt} {a : Option Addr} (h : PtsAt w l a) (hg : Gr w w' none) : PtsAt w' l a := by
  intro i hi
  obtain ⟨b, off, ha, an, cn, c0, c1, c2, c3, c4, hin, hcn⟩ := h i hi
  exact ⟨b, off, ha, an, cn, hg.cell c0 (by simp), hg.cell c1 (by simp), hg.cell c2 (by simp), hg.cell c3 (by simp), hg.cell c4 (by simp), hin.gr0 hg, hcn⟩
theorem NextAt.read {w : World} {base : Nat} {v : Value} {next : List Nat} (h : NextAt w base v next) : ∃ an cn, v = .slice an next.length cn ∧ InAt w Any (zs next) an ∧ next.length ≤ cn := by
  rcases h with ⟨rfl, rfl⟩ | ⟨g, rfl, _, hh⟩
  · exact ⟨none, 0, rfl, by simp [InAt, zs], Nat.le_refl _⟩
  · refine ⟨_, _, rfl, InAt.of fun i hi => ⟨trivial, ?_⟩, Nat.le_refl _⟩
    rw [cell_of_row w g (0 + i) _ _ (0, 0) hh]
    have hi' : i < next.length := by simpa [zs] using hi
    simp [zs_get, hi']
theorem PtsOwn.read {w : World} {base : Nat} {ao : Option Addr} {cap : Nat} {l : List Pt} (h : PtsOwn w base ao cap l) : PtsAt w l ao := by
  obtain ⟨nv, hl, hown, hn, _⟩ := h
  intro i hi
  obtain ⟨g, cap', hv⟩ := own_some hown (by omega)
  simp only [Value.slice.injEq] at hv
  obtain ⟨rfl, _, rfl⟩ := hv
  obtain ⟨an, cn, hv, hin, hcn⟩ := (hn i hi).read
  have hc : ∀ j, j < 5 → w.cell? ⟨g, i * 5 + j, none⟩ = (ptC l[i] (nv[i]'(by omega)))[j]? := by
    intro j hj
    rw [hown.cellAt (i * 5 + j) (by omega)]
    exact flat_get l nv i j hl hi hj
  refine ⟨g, 0, rfl, an, cn, ?_, ?_, ?_, ?_, ?_, hin, hcn⟩
  · simpa [ptC] using hc 0 (by omega)
  · simpa [ptC] using hc 1 (by omega)
  · simpa [ptC] using hc 2 (by omega)
  · simpa [ptC] using hc 3 (by omega)
  · rw [← hv]; simpa [ptC] using hc 4 (by omega)
theorem PtsOwn.addr {w : World} {base : Nat} {ao : Option Addr} {cap : Nat} {l : List Pt} (h : PtsOwn w base ao cap l) (hn : 0 < l.length) : ∃ g, ao = some ⟨g, 0, none⟩ := by
  obtain ⟨nv, hl, hown, _⟩ := h
  obtain ⟨g, cap', hv⟩ := own_some hown hn
  simp only [Value.slice.injEq] at hv
  exact ⟨g, hv.1⟩
/-- The cell of a point's list, and that it may be written. -/
theorem PtsOwn.nextCell {w : World} {base g cap i : Nat} {l : List Pt} (h : PtsOwn w base (some ⟨g, 0, none⟩) cap l) (hi : i < l.length) :
    (∃ v, w.cell? ⟨g, i * 5 + 4, none⟩ = some v) ∧ w.frozen? ⟨g, i * 5 + 4, none⟩ = false := by
  obtain ⟨nv, hl, hown, hn, _⟩ := h
  refine ⟨⟨nv[i]'(by omega), ?_⟩, hown.frozenAt _⟩
  · rw [hown.cellAt (i * 5 + 4) (by omega), flat_get l nv i 4 hl hi (by omega)]; rfl

theorem Pinfo : (Try.prog.info? 44).map (fun i => (i.zero, i.size, i.bytes)) = some (some (.agg #[.int .i64 0, .int .i64 0, .int .i64 0, .int .i64 0, .slice none 0 0]), 5, 56) := by kernel_rfl

/-- What a block holds (behind a name: the walk does not look into it). -/
def HeapIs (w : World) (b : Nat) (o : Obj) : Prop := w.heap[b]? = some o
/-- append of one point, in the walk. -/
theorem app_pts (w0 w : World) {ops : Array Oper} {rest : List Oper} {o : Oper} {a : Act} {Q : Exit → Act → World → Prop} (hgd : o.guard = none) (s x : Operand)
    (ho : o.op = .call { callee := .builtin .append, args := #[s, x], argTypes := #[38, 38] })
    (base : Nat) (ao : Option Addr) (cap : Nat) (L : List Pt) (hs : a.eval s = .slice ao L.length cap) (hown : PtsOwn w0 base ao cap L) (h0 : Gr w0 w none) (hL : L.length ≤ 100000) (hbase : base ≤ w0.heap.size)
    (p : Pt) (v : Value) (b : Nat) (c : Nat) (hx : a.eval x = .slice (some ⟨b, 0, none⟩) 1 c) (hb : HeapIs w b (.cells #[.int .i64 p.op, .int .i64 p.x, .int .i64 p.y, .int .i64 p.n, v] 44 (0, 0)))
    (hv : NextAt w base v p.next) (hnew : ∀ b, v.ownBlock = some b → w0.heap.size ≤ b)
    (h : ∀ (L' : List Pt) (g cap' : Nat) (w' : World), L' = L ++ [p] → PtsOwn w' base (some ⟨g, 0, none⟩) cap' L' → Gr w w' (ob ao) → (ob ao = some g ∨ w.heap.size ≤ g) →
      wpList Try.prog ops Q rest (a.put o.dst (.slice (some ⟨g, 0, none⟩) L'.length cap')) w') : wpList Try.prog ops Q (o :: rest) a w := by
  obtain ⟨i0, hi, hz0, hz1, hz2⟩ := info_parts Pinfo
  have hown' := hown
  obtain ⟨nv, hl, hrow, hn, hd⟩ := hown'
  have hroww : w.ownsRow base 44 5 (.slice ao L.length cap) L.length (flat L nv) := hrow.kept h0 (by rw [ownBlock_slice]; cases ob ao <;> simp)
  refine app_own w hgd s x 38 ho base 44 i0 _ 5 56 Try.underlying38 hi hz0 hz1 hz2 rfl (by decide) ao L.length cap (flat L nv) hs hroww ⟨b, 0, none⟩ 1 c (ptC p v) hx rfl ?_ ?_ (by unfold maxLen; omega) (by omega) (by have := h0.size; omega) (by omega) ?_
  · intro j u hu
    have hadd : (⟨b, 0, none⟩ : Addr).add j = ⟨b, j, none⟩ := by unfold Addr.add; split <;> simp_all
    rw [hadd, cell_of_row w b j _ _ (0, 0) hb]
    simpa [ptC] using hu
  · intro u hu
    simp only [ptC, List.mem_cons, List.not_mem_nil, or_false] at hu
    rcases hu with rfl | rfl | rfl | rfl | rfl <;> first | rfl | skip
    rcases hv with ⟨_, rfl⟩ | ⟨g, rfl, _⟩ <;> rfl
  · intro g cap' w' h2 h3 h4
    have hh := h (L ++ [p]) g cap' w' rfl (PtsOwn.snoc p v hown h0 h3 hv hnew ?_) h3 h4
    · rw [show (L ++ [p]).length = L.length + 1 from by simp] at hh; exact hh
    intro nv' hl' hown2
    have : flat L nv' = flat L nv := by
      rcases hown2.2 with ⟨h5, h6⟩ | ⟨g', c', cur, h5, _, h7, _, _, _, h8⟩
      · have : L = [] := List.eq_nil_of_length_eq_zero h6
        subst this; simp [flat]
      · rcases hroww.2 with ⟨h9, _⟩ | ⟨g2, c2, cur2, h9, _, h10, _, _, _, h11⟩
        · rw [h5] at h9; simp at h9
        · rw [h5] at h9
          simp at h9
          rw [h9.1] at h7
          rw [h7] at h10
          simp at h10
          rw [← h8, ← h11, h10]
    rw [this]
    exact h2

/-- A point's list is stored, in the walk's own form of the world. -/
theorem PtsOwn.setAt {w : World} {base g cap i : Nat} {L : List Pt} {cs : Array Value} {ns : List Nat} {n : Nat} (h : PtsOwn w base (some ⟨g, 0, none⟩) cap L) (hb : base ≤ w.heap.size) (hi : i < L.length)
    (hc : cs = (ns.map fun k => Value.int .i64 (k : Nat)).toArray) (hn : n = ns.length) :
    PtsOwn ((w.setCell ⟨g, i * 5 + 4, none⟩ (.slice (some ⟨w.heap.size, 0, none⟩) n n)).alloc (.cells cs 3)) base (some ⟨g, 0, none⟩) cap (L.set i { L[i] with next := ns }) := by
  subst hc hn
  refine PtsOwn.setNext h hi ((Gr.refl _ _).alloc _) (.inr ⟨w.heap.size, rfl, hb, ?_⟩) (by intro b hb; simp [Value.ownBlock] at hb; omega)
  have := heap_alloc_new (w.setCell ⟨g, i * 5 + 4, none⟩ (.slice (some ⟨w.heap.size, 0, none⟩) ns.length ns.length)) (.cells (ns.map fun k => Value.int .i64 (k : Nat)).toArray 3)
  rw [show (w.setCell ⟨g, i * 5 + 4, none⟩ (.slice (some ⟨w.heap.size, 0, none⟩) ns.length ns.length)).heap.size = w.heap.size from by simp [World.setCell]] at this
  exact this
end Go.Proofs.Ytadidppbhpdnkaa

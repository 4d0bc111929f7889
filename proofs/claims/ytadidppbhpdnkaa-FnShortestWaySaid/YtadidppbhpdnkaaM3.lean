/- A list of ints that is handed back in new memory, and what the laws do with it: equality, marks, looks. -/
import Derived.Test.YtadidppbhpdnkaaM2

import Derived.Test.YtadidppbhpdnkaaQ

import Derived.Test.YtadidppbhpdnkaaA3

namespace Go.Proofs.Ytadidppbhpdnkaa

open Go.RowKit

/-- The list l is handed back, in new memory that may be written. -/
def HandI (l : List Int) (w : World) (e : Ending) (w' : World) : Prop :=
  ∃ (a : Option Addr) (c : Nat), e = .returned (.slice a l.length c) ∧ InAt w' Any l a ∧ (∀ g, ob a = some g → w.heap.size ≤ g ∧ g < w'.heap.size) ∧ (∀ x : Addr, ob a = some x.block → w'.frozen? x = false) ∧ Gr w w' none
theorem HandI.nil (w w' : World) (hg : Gr w w' none) : HandI [] w (.returned (.slice none 0 0)) w' :=
  ⟨none, 0, rfl, by simp [InAt], by simp [ob], by simp [ob], hg⟩
theorem InAt.block {w : World} {D : Nat → Nat → Prop} {l : List Int} {a : Option Addr} (h : InAt w D l a) : InAt w (fun b _ => ob a = some b) l a := by
  by_cases hn : l = []
  · subst hn; simp [InAt]
  · obtain ⟨b, off, rfl, _, _⟩ := h.at (i := 0) (List.length_pos_iff.2 hn)
    refine InAt.of fun i hi => ⟨rfl, ?_⟩
    obtain ⟨b', off', e, _, hc⟩ := h.at hi
    cases e
    exact hc
theorem own_frozen {w : World} {base : Nat} {e : TypeId} {size n c : Nat} {a : Option Addr} {xs : List Value} (h : w.ownsRow base e size (.slice a n c) n xs) : ∀ x : Addr, ob a = some x.block → w.frozen? x = false := by
  intro x hx
  rcases h.2 with ⟨hv, _⟩ | ⟨g, cap, cur, hv, _, hc, _⟩
  · cases hv; simp [ob] at hx
  · cases hv
    simp [ob] at hx
    subst hx
    unfold World.frozen?
    rw [hc]
    simp
theorem own_block {w : World} {base : Nat} {e : TypeId} {size n c : Nat} {a : Option Addr} {xs : List Value} (h : w.ownsRow base e size (.slice a n c) n xs) : ∀ g, ob a = some g → base ≤ g ∧ g < w.heap.size := by
  intro g hg
  rcases h.2 with ⟨hv, _⟩ | ⟨g', cap, cur, hv, hb, hc, _⟩
  · cases hv; simp [ob] at hg
  · cases hv
    simp [ob] at hg
    subst hg
    exact ⟨hb, lt_of_block hc⟩
theorem own_ints {w : World} {base n c : Nat} {a : Option Addr} {l : List Int} (h : w.ownsRow base 3 1 (.slice a n c) n (ints l)) : InAt w Any l a := by
  rcases h.2 with ⟨hv, hn⟩ | ⟨g, cap, cur, hv, hb, hc, h1, h2, h3, h4⟩
  · have hl : l = [] := by have := h.1; rw [ints_length, hn] at this; exact List.length_eq_zero_iff.1 (by omega)
    subst hl; simp [InAt]
  · cases hv
    refine InAt.of fun i hi => ⟨trivial, ?_⟩
    rw [cell_of_row _ _ _ _ _ _ hc, Nat.zero_add]
    have hl := h.1
    rw [ints_length] at hl
    have : (cur.toList.take (n * 1))[i]? = some (.int .i64 l[i]) := by rw [h4]; simp [ints, hi]
    rw [List.getElem?_take_of_lt (by omega)] at this
    simpa using this
theorem HandI.of_own {w w' : World} {a : Option Addr} {c : Nat} {l : List Int} (h : w'.ownsRow w.heap.size 3 1 (.slice a l.length c) l.length (ints l)) (hg : Gr w w' none) : HandI l w (.returned (.slice a l.length c)) w' :=
  ⟨a, c, rfl, own_ints h, own_block h, own_frozen h, hg⟩
theorem HandI.own {w w' : World} {a : Option Addr} {c n : Nat} {l : List Int} (hn : l.length = n) (h : w'.ownsRow w.heap.size 3 1 (.slice a n c) n (ints l)) (hg : Gr w w' none) : HandI l w (.returned (.slice a n c)) w' := by
  subst hn
  exact HandI.of_own h hg
theorem own_nil (w : World) (base : Nat) (e : TypeId) (size : Nat) : w.ownsRow base e size (.slice none 0 0) 0 (ints []) := ⟨by simp [ints], .inl ⟨rfl, rfl⟩⟩
theorem own_empty {w : World} {base g : Nat} (hb : base ≤ g) (h : w.heap[g]? = some (.cells #[] 3 (0, 0))) : w.ownsRow base 3 1 (.slice (some ⟨g, 0, none⟩) 0 0) 0 (ints []) :=
  ⟨by simp [ints], .inr ⟨g, 0, #[], rfl, hb, h, Nat.le_refl _, by simp [maxLen], rfl, rfl⟩⟩

/-- The numbers below j that f picks. -/
def coll (f : Nat → Bool) : Nat → List Int
  | 0 => []
  | j + 1 => if f j = true then coll f j ++ [(j : Int)] else coll f j
theorem coll_yes {f : Nat → Bool} {j : Nat} (h : f j = true) : coll f (j + 1) = coll f j ++ [(j : Int)] := by simp [coll, h]
theorem coll_no {f : Nat → Bool} {j : Nat} (h : f j = false) : coll f (j + 1) = coll f j := by simp [coll, h]
theorem coll_le (f : Nat → Bool) : ∀ j, (coll f j).length ≤ j
  | 0 => by simp [coll]
  | j + 1 => by
    have := coll_le f j
    by_cases h : f j = true
    · rw [coll_yes h]; simp; omega
    · rw [coll_no (by simpa using h)]; omega
/-- A list that a loop has collected so far, of the call's own: empty without room (its block, if any, is new from b0 on), or a row from base on. -/
def Lst (w : World) (b0 base : Nat) (l : List Int) (ao : Option Addr) (n cap : Nat) : Prop :=
  l.length = n ∧ b0 ≤ base ∧ ((l = [] ∧ cap = 0 ∧ ∀ g, ob ao = some g → b0 ≤ g ∧ ∃ cs t, w.heap[g]? = some (.cells cs t (0, 0))) ∨ w.ownsRow base 3 1 (.slice ao n cap) n (ints l))
theorem Lst.nil (w : World) {b0 base : Nat} (h : b0 ≤ base) : Lst w b0 base [] none 0 0 := ⟨rfl, h, .inl ⟨rfl, rfl, by simp [ob]⟩⟩
theorem Lst.empty {w : World} {b0 base g : Nat} (h : b0 ≤ base) (hb : b0 ≤ g) (hg : w.heap[g]? = some (.cells #[] 3 (0, 0))) : Lst w b0 base [] (some ⟨g, 0, none⟩) 0 0 :=
  ⟨rfl, h, .inl ⟨rfl, rfl, fun g' e => by simp [ob] at e; subst e; exact ⟨hb, _, _, hg⟩⟩⟩
theorem Lst.gr {w w' : World} {b0 base : Nat} {l : List Int} {ao : Option Addr} {n cap : Nat} (h : Lst w b0 base l ao n cap) (hg : Gr w w' none) : Lst w' b0 base l ao n cap := by
  refine ⟨h.1, h.2.1, ?_⟩
  rcases h.2.2 with ⟨h1, h2, h3⟩ | h4
  · exact .inl ⟨h1, h2, fun g hgo => by
      obtain ⟨hb, cs, t, hc⟩ := h3 g hgo
      exact ⟨hb, cs, t, (hg.block g (lt_of_block hc) (by simp)).trans hc⟩⟩
  · exact .inr (h4.kept hg (by rw [ownBlock_slice]; cases ob ao <;> simp))
theorem Lst.hand {w w' : World} {base : Nat} {l l' : List Int} {ao : Option Addr} {n cap : Nat} (h : Lst w' w.heap.size base l ao n cap) (hl : l' = l) (hg : Gr w w' none) : HandI l' w (.returned (.slice ao n cap)) w' := by
  subst hl
  obtain ⟨hn, hb, h⟩ := h
  rcases h with ⟨h1, h2, h3⟩ | h4
  · have hn0 : n = 0 := by rw [h1] at hn; simpa using hn.symm
    subst hn0
    rw [h1]
    refine ⟨ao, cap, rfl, by simp [InAt], fun g hgo => ?_, fun x hx => ?_, hg⟩
    · obtain ⟨hb, cs, t, hc⟩ := h3 g hgo
      exact ⟨hb, lt_of_block hc⟩
    · obtain ⟨hb, cs, t, hc⟩ := h3 _ hx
      unfold World.frozen?
      rw [hc]
      simp
  · exact HandI.own hn (own_mono h4 hb) hg
theorem Lst.base {w : World} {b0 base base' : Nat} {l : List Int} {ao : Option Addr} {n cap : Nat} (h : Lst w b0 base l ao n cap) (h0 : b0 ≤ base') (h1 : base' ≤ base) : Lst w b0 base' l ao n cap :=
  ⟨h.1, h0, h.2.2.elim .inl fun h4 => .inr (own_mono h4 h1)⟩
/-- What it reads as. -/
theorem Lst.ints {w : World} {b0 base : Nat} {l : List Int} {ao : Option Addr} {n cap : Nat} (h : Lst w b0 base l ao n cap) : InAt w Any l ao := by
  rcases h.2.2 with ⟨h1, _⟩ | h4
  · subst h1; simp [InAt]
  · exact own_ints h4
/-- append of one number, in the walk. -/
theorem app_l (w0 w : World) {ops : Array Oper} {rest : List Oper} {o : Oper} {a : Act} {Q : Exit → Act → World → Prop} (hgd : o.guard = none) (s x : Operand)
    (ho : o.op = .call { callee := .builtin .append, args := #[s, x], argTypes := #[23, 23] })
    (b0 base : Nat) (ao : Option Addr) (cap n : Nat) (l : List Int) (i : Int) (hs : a.eval s = .slice ao n cap) (hown : Lst w0 b0 base l ao n cap) (h0 : Gr w0 w none)
    (bx cx : Nat) (hx : a.eval x = .slice (some ⟨bx, 0, none⟩) 1 cx) (hc : w.cell? ⟨bx, 0, none⟩ = some (.int .i64 i)) (hlen : n ≤ 2000000) (hbase : base ≤ w0.heap.size)
    (h : ∀ (g cap' : Nat) (w' : World), Lst w' b0 base (l ++ [i]) (some ⟨g, 0, none⟩) (n + 1) cap' → (∀ a : World, Gr a w none → a.heap.size ≤ base → Gr a w' none) →
      wpList Try.prog ops Q rest (a.put o.dst (.slice (some ⟨g, 0, none⟩) (n + 1) cap')) w') : wpList Try.prog ops Q (o :: rest) a w := by
  obtain ⟨i0, hi, hz0, hz1, hz2⟩ := info_parts Qinfo
  have hnews : ∀ k u, [Value.int .i64 i][k]? = some u → w.cell? ((⟨bx, 0, none⟩ : Addr).add k) = some u := by
    intro k u hu
    have hj : k = 0 := by have := (List.getElem?_eq_some_iff.1 hu).1; simpa using this
    subst hj
    simp at hu
    subst hu
    have hadd : (⟨bx, 0, none⟩ : Addr).add 0 = ⟨bx, 0, none⟩ := by unfold Addr.add; split <;> simp_all
    rw [hadd, hc]
  have hbw : base ≤ w.heap.size := by have := h0.size; omega
  have h1c : ∀ u ∈ [Value.int .i64 i], u.oneCell' = true := by intro u hu; simp at hu; subst hu; rfl
  obtain ⟨hn, hb, hcase⟩ := hown
  rcases hcase with ⟨e1, e2, e3⟩ | hrow
  · have hn0 : n = 0 := by rw [e1] at hn; simpa using hn.symm
    subst hn0 e2
    refine wpList_append_grows w hgd s x 23 ho 3 i0 _ 1 8 Try.underlying23 hi hz0 hz1 hz2 rfl (by decide) ao 0 0 [] hs (fun _ => ⟨rfl, rfl⟩) (by simp) (by simp) ⟨bx, 0, none⟩ 1 cx [.int .i64 i] hx rfl hnews h1c (by omega) (by unfold maxLen; omega) (by omega) ?_
    intro v' w' h2 h3
    obtain ⟨g, cap', rfl⟩ := own_some h2 (by omega)
    refine h g cap' w' ⟨by rw [e1]; simp, hb, .inr ?_⟩ (fun a ha hab => ha.trans h3 (by simp))
    rw [e1]
    simpa [Go.Proofs.Ytadidppbhpdnkaa.ints] using own_mono h2 hbw
  · have hroww : w.ownsRow base 3 1 (.slice ao n cap) n (Go.Proofs.Ytadidppbhpdnkaa.ints l) := hrow.kept h0 (by rw [ownBlock_slice]; cases ob ao <;> simp)
    refine app_own w hgd s x 23 ho base 3 i0 _ 1 8 Try.underlying23 hi hz0 hz1 hz2 rfl (by decide) ao n cap (Go.Proofs.Ytadidppbhpdnkaa.ints l) hs hroww ⟨bx, 0, none⟩ 1 cx [.int .i64 i] hx rfl hnews h1c (by unfold maxLen; omega) (by omega) hbw (by omega) ?_
    intro g cap' w' h2 h3 h4
    refine h g cap' w' ⟨by simp [hn], hb, .inr ?_⟩ (fun a ha hab => ha.trans h3 (fun r hr => .inr ?_))
    · rw [show Go.Proofs.Ytadidppbhpdnkaa.ints (l ++ [i]) = Go.Proofs.Ytadidppbhpdnkaa.ints l ++ [.int .i64 i] from by simp [Go.Proofs.Ytadidppbhpdnkaa.ints]]
      exact h2
    · have := (own_block hrow r hr).1
      omega

/-- The list of the numbers below j that f picks, so far. -/
def Coll (w : World) (b0 base : Nat) (f : Nat → Bool) (j : Nat) (ao : Option Addr) (n cap : Nat) : Prop := Lst w b0 base (coll f j) ao n cap
theorem Coll.nil (w : World) {b0 base : Nat} (h : b0 ≤ base) (f : Nat → Bool) : Coll w b0 base f 0 none 0 0 := Lst.nil w h
theorem Coll.empty {w : World} {b0 base g : Nat} (h : b0 ≤ base) (f : Nat → Bool) (hb : b0 ≤ g) (hg : w.heap[g]? = some (.cells #[] 3 (0, 0))) : Coll w b0 base f 0 (some ⟨g, 0, none⟩) 0 0 := Lst.empty h hb hg
theorem Coll.le {w : World} {b0 base : Nat} {f : Nat → Bool} {j : Nat} {ao : Option Addr} {n cap : Nat} (h : Coll w b0 base f j ao n cap) : n ≤ j := by have := coll_le f j; have := h.1; omega
theorem Coll.gr {w w' : World} {b0 base : Nat} {f : Nat → Bool} {j : Nat} {ao : Option Addr} {n cap : Nat} (h : Coll w b0 base f j ao n cap) (hg : Gr w w' none) : Coll w' b0 base f j ao n cap := Lst.gr h hg
theorem Coll.no {w : World} {b0 base : Nat} {f : Nat → Bool} {j : Nat} {ao : Option Addr} {n cap : Nat} (h : Coll w b0 base f j ao n cap) (hf : f j = false) : Coll w b0 base f (j + 1) ao n cap := by
  unfold Coll; rw [coll_no hf]; exact h
theorem Coll.hand {w w' : World} {base : Nat} {f : Nat → Bool} {j : Nat} {ao : Option Addr} {n cap : Nat} {l : List Int} (h : Coll w' w.heap.size base f j ao n cap) (hl : l = coll f j) (hg : Gr w w' none) : HandI l w (.returned (.slice ao n cap)) w' := Lst.hand h hl hg
/-- append of the number j, in the walk. -/
theorem app_c (w0 w : World) {ops : Array Oper} {rest : List Oper} {o : Oper} {a : Act} {Q : Exit → Act → World → Prop} (hgd : o.guard = none) (s x : Operand)
    (ho : o.op = .call { callee := .builtin .append, args := #[s, x], argTypes := #[23, 23] })
    (b0 base : Nat) (ao : Option Addr) (cap n : Nat) (f : Nat → Bool) (j : Nat) (hs : a.eval s = .slice ao n cap) (hown : Coll w0 b0 base f j ao n cap) (h0 : Gr w0 w none) (hf : f j = true)
    (bx cx : Nat) (hx : a.eval x = .slice (some ⟨bx, 0, none⟩) 1 cx) (hc : w.cell? ⟨bx, 0, none⟩ = some (.int .i64 (j : Int))) (hlen : j ≤ 2000000) (hbase : base ≤ w0.heap.size)
    (h : ∀ (g cap' : Nat) (w' : World), Coll w' b0 base f (j + 1) (some ⟨g, 0, none⟩) (n + 1) cap' → (∀ a : World, Gr a w none → a.heap.size ≤ base → Gr a w' none) →
      wpList Try.prog ops Q rest (a.put o.dst (.slice (some ⟨g, 0, none⟩) (n + 1) cap')) w') : wpList Try.prog ops Q (o :: rest) a w := by
  have hnj := hown.le
  refine app_l w0 w hgd s x ho b0 base ao cap n (coll f j) j hs hown h0 bx cx hx hc (by omega) hbase fun g cap' w' h1 h2 => h g cap' w' ?_ h2
  unfold Coll
  rw [coll_yes hf]
  exact h1
end Go.Proofs.Ytadidppbhpdnkaa

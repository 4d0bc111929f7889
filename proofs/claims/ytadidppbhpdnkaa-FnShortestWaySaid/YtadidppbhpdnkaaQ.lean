/- A list of ints of the call's own that is taken from at both ends: one law for append. No walk stands here. -/
import Derived.Test.YtadidppbhpdnkaaO

import Derived.Laws.IdiomCopy

import Derived.Deep.Upon

import Derived.Deep.MidRow

namespace Go.Proofs.Ytadidppbhpdnkaa

open Go.RowKit

theorem Qinfo : (Try.prog.info? 3).map (fun i => (i.zero, i.size, i.bytes)) = some (some (.int .i64 0), 1, 8) := by kernel_rfl
def ints (l : List Int) : List Value := l.map fun x => Value.int .i64 x
theorem ints_length (l : List Int) : (ints l).length = l.length := by simp [ints]
theorem ints_one (l : List Int) : ∀ u ∈ ints l, u.oneCell' = true := by
  intro u hu
  obtain ⟨x, _, rfl⟩ := List.mem_map.1 hu
  rfl

/-- The ints l lie at off in the block g, which is the call's own: n of them, with room for cap. -/
def Que (w : World) (base g off n cap : Nat) (l : List Int) : Prop :=
  base ≤ g ∧ g < w.heap.size ∧ l.length = n ∧ n ≤ cap ∧ (∀ j, j < cap → (w.cell? ⟨g, off + j, none⟩).isSome = true ∧ w.frozen? ⟨g, off + j, none⟩ = false) ∧
    ∀ j u, (ints l)[j]? = some u → w.cell? ⟨g, off + j, none⟩ = some u
theorem Que.gr {w w' : World} {base g off n cap : Nat} {l : List Int} {row : Option Nat} (h : Que w base g off n cap l) (hg : Gr w w' row) (hr : row ≠ some g) : Que w' base g off n cap l := by
  obtain ⟨h1, h2, h3, h4, h5, h6⟩ := h
  have hb : w'.heap[g]? = w.heap[g]? := hg.block g h2 (fun e => hr e.symm)
  have hc : ∀ j, w'.cell? ⟨g, j, none⟩ = w.cell? ⟨g, j, none⟩ := fun j => World.cell?_of_block (a := ⟨g, j, none⟩) hb
  have hf : ∀ j, w'.frozen? ⟨g, j, none⟩ = w.frozen? ⟨g, j, none⟩ := fun j => World.frozen?_of_block (a := ⟨g, j, none⟩) hb
  exact ⟨h1, Nat.lt_of_lt_of_le h2 hg.size, h3, h4, fun j hj => by rw [hc, hf]; exact h5 j hj, fun j u hu => by rw [hc]; exact h6 j u hu⟩
theorem Que.cell {w : World} {base g off n cap : Nat} {l : List Int} (h : Que w base g off n cap l) {j : Nat} (hj : j < l.length) : w.cell? ⟨g, off + j, none⟩ = some (.int .i64 l[j]) :=
  h.2.2.2.2.2 j _ (by simp [ints, hj])
/-- The last one is taken. -/
theorem Que.pop {w : World} {base g off n cap : Nat} {l : List Int} {x : Int} (h : Que w base g off n cap (l ++ [x])) : Que w base g off l.length cap l := by
  obtain ⟨h1, h2, h3, h4, h5, h6⟩ := h
  simp at h3
  refine ⟨h1, h2, rfl, by omega, h5, fun j u hu => h6 j u ?_⟩
  have : j < (ints l).length := (List.getElem?_eq_some_iff.1 hu).1
  simp only [ints, List.map_append] at hu ⊢
  rw [List.getElem?_append_left (by simpa [ints] using this)]
  exact hu
/-- The first one is taken. -/
theorem Que.tail {w : World} {base g off n cap : Nat} {l : List Int} {x : Int} (h : Que w base g off n cap (x :: l)) : Que w base g (off + 1) l.length (cap - 1) l := by
  obtain ⟨h1, h2, h3, h4, h5, h6⟩ := h
  simp at h3
  refine ⟨h1, h2, rfl, by omega, fun j hj => ?_, fun j u hu => ?_⟩
  · have := h5 (j + 1) (by omega)
    rw [show off + 1 + j = off + (j + 1) from by omega]
    exact this
  · have := h6 (j + 1) u (by simpa [ints] using hu)
    rw [show off + 1 + j = off + (j + 1) from by omega]
    exact this
theorem Que.of_own {w : World} {base g n cap : Nat} {l : List Int} (h : w.ownsRow base 3 1 (.slice (some ⟨g, 0, none⟩) n cap) n (ints l)) : Que w base g 0 n cap l := by
  rcases h.2 with ⟨h', _⟩ | ⟨g', cap', cur, h', hb, hg, hn, _, hcs, htake⟩
  · simp at h'
  · simp only [Value.slice.injEq, Option.some.injEq, Addr.mk.injEq, and_true, true_and] at h'
    obtain ⟨rfl, rfl⟩ := h'
    have hlen := h.1
    refine ⟨hb, (Array.getElem?_eq_some_iff.1 hg).1, by simpa [ints] using hlen, hn, fun j hj => ⟨?_, ?_⟩, fun j u hu => ?_⟩
    · rw [cell_of_row w g (0 + j) cur _ (0, 0) hg, Nat.zero_add, Array.getElem?_eq_getElem (by omega)]; rfl
    · simp [World.frozen?, hg]
    · rw [cell_of_row w g (0 + j) cur _ (0, 0) hg, Nat.zero_add]
      rw [← htake, List.getElem?_take] at hu
      split at hu
      · simpa using hu
      · simp at hu

theorem InAt.addr {w : World} {D : Nat → Nat → Prop} {l : List Int} {a : Addr} (h : InAt w D l (some a)) (hl : 0 < l.length) : a.spot = none := by
  cases l with
  | nil => simp at hl
  | cons x r =>
    simp only [InAt] at h
    obtain ⟨b, off, e, _⟩ := h
    cases e
    rfl

theorem setCells_gr (g : Nat) : ∀ (vs : List Value) (o : Nat) (w : World), Gr w (w.setCells g o vs) (some g)
  | [], _, _ => Gr.refl _ _
  | v :: r, o, w => (own_set w g o v).trans (setCells_gr g r (o + 1) _) (fun k hk => .inl (by simpa using hk))

/-- append of a list that is read to a list of the call's own: at whatever length, the empty one too. -/
theorem app_q (w : World) {ops : Array Oper} {rest : List Oper} {o : Oper} {a : Act} {Q : Exit → Act → World → Prop} (hgd : o.guard = none) (s x : Operand)
    (ho : o.op = .call { callee := .builtin .append, args := #[s, x], argTypes := #[23, 23] })
    (base g off n cap : Nat) (l : List Int) (hs : a.eval s = .slice (some ⟨g, off, none⟩) n cap) (hq : Que w base g off n cap l)
    (an : Option Addr) (cn : Nat) (m : List Int) (hx : a.eval x = .slice an m.length cn) (hm : InAt w Any m an) (hlen : n + m.length ≤ 1048576)
    (h : ∀ (g' off' cap' : Nat) (w' : World), Que w' base g' off' (n + m.length) cap' (l ++ m) → Gr w w' (some g) →
      wpList Try.prog ops Q rest (a.put o.dst (.slice (some ⟨g', off', none⟩) (n + m.length) cap')) w') : wpList Try.prog ops Q (o :: rest) a w := by
  obtain ⟨h1, h2, h3, h4, h5, h6⟩ := hq
  obtain ⟨i, hi, hz, hsz, hby⟩ : ∃ i, Try.prog.info? 3 = some i ∧ i.zero = some (.int .i64 0) ∧ i.size = 1 ∧ i.bytes = 8 := by
    have := Qinfo
    cases hi : Try.prog.info? 3 with
    | none => rw [hi] at this; simp at this
    | some i => rw [hi] at this; simp at this; exact ⟨i, rfl, this.1, this.2.1, this.2.2⟩
  by_cases hne : m.length = 0
  · have hm0 : m = [] := List.eq_nil_of_length_eq_zero hne
    subst hm0
    refine wpList_plain hgd fun K hK => ?_
    have hrun : (Builtin.append_ #[23, 23] o.type #[.slice (some ⟨g, off, none⟩) n cap, .slice an 0 cn]).run Try.prog w = .ok (.slice (some ⟨g, off, none⟩) n cap) w := by
      cases an with
      | none => simp [Builtin.append_, run_underlying Try.underlying23, sizeOf, typeInfo, hi, Builtin.lenOf, Builtin.firstCells, h4, storeCells]
      | some ad =>
        have := run_append_room_cells (P := Try.prog) w 23 o.type 3 i Try.underlying23 hi g off n cap ad 0 cn [] (by simp) (by simp) (by simp) (by simpa using h4) (by simp) (by simp)
        simpa [World.setCells] using this
    unfold Oper.wp
    simp at hx
    simp [execOp, ho, resolve, invoke, builtin, hs, hx, hrun, Result.andThen]
    have := h g off cap w ⟨h1, h2, by simpa using h3, by simpa using h4, h5, by simpa using h6⟩ (Gr.refl _ _)
    simp at this
    exact hK _ _ this
  · have hpos : 0 < m.length := by omega
    obtain ⟨ad, rfl⟩ : ∃ ad, an = some ad := by
      cases an with
      | some ad => exact ⟨ad, rfl⟩
      | none => obtain ⟨_, _, e, _⟩ := hm.at hpos; simp at e
    have hsp := hm.addr hpos
    obtain ⟨ab, ao, asp⟩ := ad
    simp at hsp
    subst hsp
    refine wpList_append_arg w hgd s x 23 ho 3 i (.int .i64 0) 1 8 Try.underlying23 hi hz hsz hby rfl (by omega) g off n cap (ints l) hs (by simpa [ints] using h3) h6
      ⟨ab, ao, none⟩ m.length cn (ints m) hx (by simp [ints]) ?_ (ints_one m) ?_ (by unfold maxLen; omega) (by omega) ?_ ?_
    · intro j u hu
      have hj : j < m.length := by simpa [ints] using (List.getElem?_eq_some_iff.1 hu).1
      obtain ⟨b', o', e, _, hc⟩ := hm.at hj
      cases e
      rw [Addr.add_lit]
      rw [hc]
      simpa [ints, hj] using hu
    · intro hr j hj
      have := h5 (n + j) (by rw [ints_length] at hj; omega)
      rw [show off + n * 1 + j = off + (n + j) from by omega]
      exact this
    · intro hr
      have hgr : Gr w (w.setCells g (off + n * 1) (ints m)) (some g) := setCells_gr g _ _ w
      refine h g off cap _ ⟨h1, Nat.lt_of_lt_of_le h2 hgr.size, by simp [h3], hr, fun j hj => ⟨?_, ?_⟩, ?_⟩ hgr
      · exact World.isSome_setCells g _ _ w _ (h5 j hj).1
      · rw [World.frozen?_setCells]; exact (h5 j hj).2
      · intro j u hu
        simp only [ints, List.map_append] at hu
        by_cases hj : j < l.length
        · rw [List.getElem?_append_left (by simpa using hj)] at hu
          rw [World.cell?_setCells_out]
          · exact h6 j u hu
          · intro _ _; left; simp; omega
        · rw [List.getElem?_append_right (by simpa using hj)] at hu
          have hj2 := (List.getElem?_eq_some_iff.1 hu).1
          have := World.cell?_setCells_in g (ints m) (off + n * 1) w (fun k hk => by
            have := (h5 (n + k) (by rw [ints_length] at hk; omega)).1
            rw [show off + n * 1 + k = off + (n + k) from by omega]
            exact this) (j - l.length) (by simpa [ints] using hj2)
          rw [show off + j = off + n * 1 + (j - l.length) from by omega, this]
          have e : (List.map (fun x => Value.int .i64 x) l).length = l.length := by simp
          rw [e] at hu hj2
          rw [List.getElem?_eq_getElem hj2] at hu
          exact hu
    · intro hgrow v' w' hown hgr
      obtain ⟨g', cap', rfl⟩ := own_some hown (by omega)
      have hq := Que.of_own (l := l ++ m) (by simpa [ints] using own_mono hown (Nat.le_trans h1 (Nat.le_of_lt h2)))
      exact h g' 0 cap' w' hq (Gr.weaken hgr)
end Go.Proofs.Ytadidppbhpdnkaa

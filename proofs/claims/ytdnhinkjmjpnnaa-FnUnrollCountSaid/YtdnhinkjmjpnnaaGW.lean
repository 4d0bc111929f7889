/- UnrollLoop of the program: a statement with a list of its own is stored; the walk. -/
import Derived.Test.YtdnhinkjmjpnnaaFJ

import Derived.Test.YtdnhinkjmjpnnaaFR

namespace Go.Proofs.Ytdnhinkjmjpnnaa

open Go.RowKit

theorem Sts.putT {w : World} {base g cap : Nat} {l : List St} (h : Sts w base (some ⟨g, 0, none⟩) cap l) {i : Nat} (hi : i < l.length) (op x y n : Int) (t : List St) (at9 : Option Addr) (ct9 : Nat) (ht : SlAt w (Inn base (some ⟨g, 0, none⟩)) t at9) (htl : t.length ≤ maxLen) :
    Sts (putSix w g (i * 6) (.int .i64 op) (.int .i64 x) (.int .i64 y) (.int .i64 n) (.slice at9 t.length ct9) (.slice none 0 0)) base (some ⟨g, 0, none⟩) cap (l.set i (.mk op x y n t [])) := by
  obtain ⟨rows, hl, ho, hs⟩ := h
  have hlen : ∀ r ∈ rows, r.length = 6 := fun r hr => by
    obtain ⟨k, hk, rfl⟩ := List.getElem_of_mem hr
    exact (hs k (by omega)).len
  have hir : i < rows.length := by omega
  have h0 : RowIs w base g cap l.length i rows rows[i] := ⟨rows, rfl, ho, hlen, by simp [hir], fun _ _ => rfl⟩
  have h6 := (((((h0.step (j := 0) (by omega) (.int .i64 op)).step (j := 1) (by omega) (.int .i64 x)).step (j := 2) (by omega) (.int .i64 y)).step (j := 3) (by omega) (.int .i64 n)).step (j := 4) (by omega) (.slice at9 t.length ct9)).step (j := 5) (by omega) (.slice none 0 0)
  have hr6 := hlen _ (List.getElem_mem hir)
  have hown := putSix_own w g (i * 6) (.int .i64 op) (.int .i64 x) (.int .i64 y) (.int .i64 n) (.slice at9 t.length ct9) (.slice none 0 0)
  have mv : ∀ (l : List St) a, SlAt w (Inn base (some ⟨g, 0, none⟩)) l a → SlAt (putSix w g (i * 6) (.int .i64 op) (.int .i64 x) (.int .i64 y) (.int .i64 n) (.slice at9 t.length ct9) (.slice none 0 0)) (Inn base (some ⟨g, 0, none⟩)) l a := fun l a h => SlAt.gr hown (fun b _ hb e => hb.2 (by cases e; rfl)) h
  obtain ⟨r, er⟩ : ∃ r, rows[i] = r := ⟨_, rfl⟩
  rw [er] at h6 hr6
  obtain ⟨a0, a1, a2, a3, a4, a5, rfl⟩ : ∃ a0 a1 a2 a3 a4 a5, r = [a0, a1, a2, a3, a4, a5] := by
    match r, hr6 with
    | [a0, a1, a2, a3, a4, a5], _ => exact ⟨_, _, _, _, _, _, rfl⟩
  obtain ⟨q, hq, ho', -, hqi, hqk⟩ := h6
  refine ⟨q, by simp; omega, by simpa [putSix] using ho', fun k hk => ?_⟩
  have hk' : k < l.length := by simpa using hk
  by_cases e : k = i
  · subst e
    have hqe : q[k]'(by omega) = [.int .i64 op, .int .i64 x, .int .i64 y, .int .i64 n, .slice at9 t.length ct9, .slice none 0 0] := by
      have := (List.getElem?_eq_some_iff.1 hqi).2
      simpa using this
    rw [List.getElem_set_self, hqe]
    exact ⟨htl, by simp [St.els, maxLen], at9, ct9, none, 0, rfl, mv t at9 ht, by simp [St.els, SlAt]⟩
  · have hqe : q[k]'(by omega) = rows[k]'(by omega) := by
      have := hqk k e
      rw [List.getElem?_eq_getElem (by omega), List.getElem?_eq_getElem (by omega)] at this
      simpa using this
    rw [List.getElem_set_ne (by omega), hqe]
    exact (hs k hk').map mv
/-- append of one statement, whose row lies from ad on and whose lists may lie in older memory. -/
theorem app_one (w : World) (ty : TypeId) {base : Nat} {ao : Option Addr} {cap : Nat} {l : List St} (h : Sts w base ao cap l) (hbase : base ≤ w.heap.size) {s : St} {D : Nat → Nat → Prop} {r : List Value} (hr : StRow w D s r) (hD : ∀ b o, D b o → ob ao ≠ some b) (ad : Addr) (cx : Nat) (hc : ∀ j u, r[j]? = some u → w.cell? (ad.add j) = some u) (hlen : l.length ≤ 100000) :
    ∃ (g cap' : Nat) (w' : World), (Builtin.append_ #[28, 28] ty #[.slice ao l.length cap, .slice (some ad) 1 cx]).run Try.prog w = .ok (.slice (some ⟨g, 0, none⟩) (l.length + 1) cap') w' ∧
      SlAt w' (fun b o => base ≤ b ∨ D b o) (l ++ [s]) (some ⟨g, 0, none⟩) ∧ base ≤ g ∧ Gr w w' (ob ao) := by
  obtain ⟨i0, hi, hz0, hz1, hz2⟩ := info_parts StInfo
  obtain ⟨rows, hl, hrow, hss⟩ := h
  obtain ⟨v', w', hrun, h1, h2, _⟩ := run_append_own (P := Try.prog) (w := w) base 28 ty 126 i0 _ 6 80 Try.underlying28 hi hz0 hz1 hz2 rfl (by decide) _ l.length _ hrow ad 1 cx r (by rw [hr.len]) hc hr.one (by unfold maxLen; omega) (by omega) hbase
  obtain ⟨g, cap', rfl⟩ := own_some h1 (by omega)
  rw [ownBlock_slice] at h2
  have hg := (own_block h1 g rfl).1
  have h1' : w'.ownsRow base 126 6 (.slice (some ⟨g, 0, none⟩) (l.length + 1) cap') (l.length + 1) (rows ++ [r]).flatten := by simpa using h1
  have hlen6 : ∀ q ∈ rows ++ [r], q.length = 6 := fun q hq => by
    rcases List.mem_append.1 hq with hq | hq
    · obtain ⟨k, hk, rfl⟩ := List.getElem_of_mem hq
      exact (hss k (by omega)).len
    · simp at hq; subst hq; exact hr.len
  have hST : ∀ i (hi : i < (l ++ [s]).length), StRow w' (fun b o => base ≤ b ∨ D b o) (l ++ [s])[i] ((rows ++ [r])[i]'(by simp at hi ⊢; omega)) := by
    intro i hi
    by_cases hlt : i < l.length
    · rw [List.getElem_append_left hlt, List.getElem_append_left (show i < rows.length by omega)]
      exact ((hss i hlt).map fun _ _ hs => SlAt.gr h2 (fun b _ hd e => hd.2 e) hs).sub fun b _ hd => .inl hd.1
    · have hil : i = l.length := by simp at hi; omega
      subst hil
      rw [List.getElem_append_right (by omega), List.getElem_append_right (by omega)]
      simp only [hl, Nat.sub_self, List.getElem_cons_zero]
      exact (hr.map fun _ _ hs => SlAt.gr h2 (fun b o hd e => hD b o hd e) hs).sub fun b _ hd => .inr hd
  refine ⟨g, cap', w', hrun, SlAt.of fun i hi => ?_, hg, h2⟩
  have hcell : ∀ j v, ((rows ++ [r])[i]'(by simp at hi ⊢; omega))[j]? = some v → w'.cell? ⟨g, i * 6 + j, none⟩ = some v := by
    intro j v hv
    have hj := (List.getElem?_eq_some_iff.1 hv).1
    rw [(hST i hi).len] at hj
    rw [h1'.cellAt (i * 6 + j) (by simp at hi; omega)]
    exact flatten_get _ hlen6 i (by simp at hi ⊢; omega) j v hv
  obtain ⟨q1, q2, at', ct, ae, ce, hrr, q3, q4⟩ := hST i hi
  rw [hrr] at hcell
  rw [Nat.zero_add]
  exact StAt.into ⟨.inl hg, q1, q2, at', ct, ae, ce, hcell 0 _ rfl, hcell 1 _ rfl, hcell 2 _ rfl, hcell 3 _ rfl, hcell 4 _ rfl, hcell 5 _ rfl, q3, q4⟩
end Go.Proofs.Ytdnhinkjmjpnnaa

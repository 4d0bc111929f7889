/- A statement is stored into a list of the call's own; two statements behind one another. -/
import Derived.Test.YtdnhinkjmjpnnaaFH

namespace Go.Proofs.Ytdnhinkjmjpnnaa

open Go.RowKit

/-- The row i of an owned list is r; the others are as they were. -/
def RowIs (w : World) (base g cap n i : Nat) (rows : List (List Value)) (r : List Value) : Prop :=
  ∃ q : List (List Value), ∃ _h : q.length = rows.length, w.ownsRow base 126 6 (.slice (some ⟨g, 0, none⟩) n cap) n q.flatten ∧ (∀ x ∈ q, x.length = 6) ∧ q[i]? = some r ∧ ∀ k, k ≠ i → q[k]? = rows[k]?
theorem RowIs.step {w : World} {base g cap n i : Nat} {rows : List (List Value)} {r : List Value} (h : RowIs w base g cap n i rows r) {j : Nat} (hj : j < 6) (u : Value) :
    RowIs (w.setCell ⟨g, i * 6 + j, none⟩ u) base g cap n i rows (r.set j u) := by
  obtain ⟨q, hl, ho, h6, hr, hk⟩ := h
  obtain ⟨hi, e⟩ := List.getElem?_eq_some_iff.1 hr
  have hst := (ho.stored (i * 6 + j) u).1
  rw [flatten_set q i j u h6 hi hj, e] at hst
  refine ⟨q.set i (r.set j u), by simp [hl], by simpa using hst, fun x hx => ?_, by simp [hi], fun k hki => by rw [List.getElem?_set_ne (fun h => hki h.symm)]; exact hk k hki⟩
  rcases List.mem_or_eq_of_mem_set hx with hx | rfl
  · exact h6 x hx
  · rw [List.length_set, ← e]; exact h6 _ (List.getElem_mem hi)
/-- The six cells of a statement, written one after the other. -/
def putSix (w : World) (g o : Nat) (v0 v1 v2 v3 v4 v5 : Value) : World :=
  (((((w.setCell ⟨g, o, none⟩ v0).setCell ⟨g, o + 1, none⟩ v1).setCell ⟨g, o + 2, none⟩ v2).setCell ⟨g, o + 3, none⟩ v3).setCell ⟨g, o + 4, none⟩ v4).setCell ⟨g, o + 5, none⟩ v5
theorem putSix_own (w : World) (g o : Nat) (v0 v1 v2 v3 v4 v5 : Value) : Gr w (putSix w g o v0 v1 v2 v3 v4 v5) (some g) :=
  ((((((Gr.refl w (some g)).setOwn rfl _).setOwn rfl _).setOwn rfl _).setOwn rfl _).setOwn rfl _).setOwn rfl _
theorem Sts.put {w : World} {base g cap : Nat} {l : List St} (h : Sts w base (some ⟨g, 0, none⟩) cap l) {i : Nat} (hi : i < l.length) (op x y n : Int) :
    Sts (putSix w g (i * 6) (.int .i64 op) (.int .i64 x) (.int .i64 y) (.int .i64 n) (.slice none 0 0) (.slice none 0 0)) base (some ⟨g, 0, none⟩) cap (l.set i (.mk op x y n [] [])) := by
  obtain ⟨rows, hl, ho, hs⟩ := h
  have hlen : ∀ r ∈ rows, r.length = 6 := fun r hr => by
    obtain ⟨k, hk, rfl⟩ := List.getElem_of_mem hr
    exact (hs k (by omega)).len
  have hir : i < rows.length := by omega
  have h0 : RowIs w base g cap l.length i rows rows[i] := ⟨rows, rfl, ho, hlen, by simp [hir], fun _ _ => rfl⟩
  have h6 := (((((h0.step (j := 0) (by omega) (.int .i64 op)).step (j := 1) (by omega) (.int .i64 x)).step (j := 2) (by omega) (.int .i64 y)).step (j := 3) (by omega) (.int .i64 n)).step (j := 4) (by omega) (.slice none 0 0)).step (j := 5) (by omega) (.slice none 0 0)
  have hr6 := hlen _ (List.getElem_mem hir)
  have hown := putSix_own w g (i * 6) (.int .i64 op) (.int .i64 x) (.int .i64 y) (.int .i64 n) (.slice none 0 0) (.slice none 0 0)
  have mv : ∀ (l : List St) a, SlAt w (Inn base (some ⟨g, 0, none⟩)) l a → SlAt (putSix w g (i * 6) (.int .i64 op) (.int .i64 x) (.int .i64 y) (.int .i64 n) (.slice none 0 0) (.slice none 0 0)) (Inn base (some ⟨g, 0, none⟩)) l a := fun l a h => SlAt.gr hown (fun b _ hb e => hb.2 (by cases e; rfl)) h
  obtain ⟨r, er⟩ : ∃ r, rows[i] = r := ⟨_, rfl⟩
  rw [er] at h6 hr6
  obtain ⟨a0, a1, a2, a3, a4, a5, rfl⟩ : ∃ a0 a1 a2 a3 a4 a5, r = [a0, a1, a2, a3, a4, a5] := by
    match r, hr6 with
    | [a0, a1, a2, a3, a4, a5], _ => exact ⟨_, _, _, _, _, _, rfl⟩
  obtain ⟨q, hq, ho', -, hqi, hqk⟩ := h6
  refine ⟨q, by simp; omega, by simpa [putSix] using ho', fun k hk => ?_⟩
  have hk' : k < l.length := by simpa using hk
  by_cases e : k = i
  · subst e
    have hqe : q[k]'(by omega) = [.int .i64 op, .int .i64 x, .int .i64 y, .int .i64 n, .slice none 0 0, .slice none 0 0] := by
      have := (List.getElem?_eq_some_iff.1 hqi).2
      simpa using this
    rw [List.getElem_set_self, hqe]
    exact ⟨by simp [St.thn, maxLen], by simp [St.els, maxLen], none, 0, none, 0, rfl, by simp [St.thn, SlAt], by simp [St.els, SlAt]⟩
  · have hqe : q[k]'(by omega) = rows[k]'(by omega) := by
      have := hqk k e
      rw [List.getElem?_eq_getElem (by omega), List.getElem?_eq_getElem (by omega)] at this
      simpa using this
    rw [List.getElem_set_ne (by omega), hqe]
    exact (hs k hk').map mv
/-- A valid program with a statement k and one behind it. -/
def hasPairP (p : Pr) (k : Int) : Bool := validP p && (decide (0 ≤ k) && decide (k ≤ (p.body.length : Int) - 2))
set_option maxHeartbeats 1000000 in
theorem hasPair_any (p : Pr) (k : Int) (at' ab : Option Addr) (ct cb : Nat) (w : World) (hT : InAt w Any p.types at') (hB : SlAt w Any p.body ab) (hs : p.types.length ≤ 1048576) (hc : p.body.length ≤ 1048576) :
    Calls Try.prog 114 #[.agg #[.slice at' p.types.length ct, .slice ab p.body.length cb], .int .i64 k] w fun e w' => e = .returned (.bool (hasPairP p k)) ∧ Gr w w' none := by
  have hg1 : ∀ o, Gr w (w.alloc o) none := fun o => (Gr.refl _ _).alloc _
  go_enter Try.func114, Try.ntmps114
  go_wp2_with fail
  refine (valid_any p at' ab ct cb _ (hT.gr0 (hg1 _)) (hB.gr0 (hg1 _)) hs hc).mono ?_
  rintro e w1 ⟨rfl, hg⟩
  have q1 : w1.cell? ⟨w.heap.size, 1, none⟩ = some (.slice ab p.body.length cb) := hg.cell (p := ⟨w.heap.size, 1, none⟩) (cell?_new2 _ _).2 (by simp)
  have HG := Lib.hid ((hg1 _).trans0 hg)
  clear hg
  have hw : IntKind.i64.wrap ((p.body.length : Int) - 2) = (p.body.length : Int) - 2 := IntWalk.i64_in _ (by omega)
  cases hv : validP p with
  | false =>
    have HO := Lib.hid (show hasPairP p k = false by unfold hasPairP; rw [hv]; rfl)
    clear hv
    go_wp2_with fail
    go_ret
    exact ⟨ret_bool HO.out.symm, HG.out⟩
  | true =>
    have HO := Lib.hid (show hasPairP p k = within k 0 ((p.body.length : Int) - 2) by unfold hasPairP within; rw [hv]; rfl)
    clear hv
    go_wp2_with fail
    refine (within_any k 0 ((p.body.length : Int) - 2) _).mono ?_
    rintro e w2 ⟨rfl, rfl⟩
    go_wp2_with fail
    go_ret
    exact ⟨ret_bool HO.out.symm, HG.out⟩
end Go.Proofs.Ytdnhinkjmjpnnaa

/- Plain laws of shortest ways; ShortWay of a part. -/
import Derived.Test.YtadidppbhpdnkaaFC

namespace Go.Proofs.Ytadidppbhpdnkaa

open Go.RowKit

theorem fin_srh {L : List Pt} (hok : NextOk L) {f : Nat} {s : Tab × List Nat} {F : Tab} (h : Fin' L s F) : Srh L.length f s → Srh L.length f (F, []) := by
  induction h with
  | nil => exact id
  | @pop T F a Q _ ih =>
    intro hs
    have ha := hs.que a (by simp)
    exact ih (hs.pop.visits ha.1 ha.2 fun j hj => (hok a ha.1).2 j hj)
theorem shortL_lt {L : List Pt} (hok : NextOk L) {f t : Nat} (hf : f < L.length) {l : List Nat} (h : shortL L f t = (l, true)) : l.length ≤ L.length + 1 ∧ ∀ i, 1 ≤ i → ∀ h' : i < l.length, l[i] < L.length := by
  unfold shortL at h
  split at h
  · rename_i hex
    obtain ⟨F, hF, hc⟩ := Classical.choose_spec hex
    have e : Classical.choose hex = l := by simpa using h
    rw [e] at hc
    have hs := fin_srh hok hF (Srh.start hf)
    obtain ⟨a, ha⟩ := hc.has
    obtain ⟨l', hc', hl'⟩ := hs.way t a ha
    refine ⟨?_, fun i hi h' => ?_⟩
    · rw [hc.unique hc']; have := cntT_le L.length F; simp only at hl'; omega
    · obtain ⟨b, hb⟩ := (hc.pre i hi h').has
      exact (hs.tab _ _ hb).1
  · simp at h
theorem shortOf_len (p : Pr) (a b : Int) : (shortOf p a b).1.length ≤ 62 := by
  cases h : hasTwo p a b with
  | false => rw [shortOf_out h]; simp
  | true =>
    obtain ⟨j, k, rfl, rfl, hj, hk, hv, hpp⟩ := hasTwo_in h
    rw [shortOf_in h]
    cases h2 : shortL (ptsOf p) j k with
    | mk l b =>
      cases b with
      | true => have := (shortL_lt (ptsOf_ok p) hj h2).1; have := ptsOf_le p; simp only; omega
      | false =>
        unfold shortL at h2
        split at h2
        · simp at h2
        · simp at h2; subst h2; simp
theorem shortOf_part {p : Pr} {a b : Int} {l : List Nat} (h : shortOf p a b = (l, true)) {i : Nat} (hi : 1 ≤ i) (hl : i < l.length) : shortOf p a (l[i] : Nat) = (l.take (i + 1), true) := by
  cases h2 : hasTwo p a b with
  | false => rw [shortOf_out h2] at h; simp at h
  | true =>
    obtain ⟨j, k, rfl, rfl, hj, hk, hv, hpp⟩ := hasTwo_in h2
    rw [shortOf_in h2] at h
    have hx := (shortL_lt (ptsOf_ok p) hj h).2 i hi hl
    rw [shortOf_in (by unfold hasTwo; simp; omega)]
    exact shortL_part h hi hl
theorem implShortPart_any (p : Pr) (a b : Int) (l : List Nat) (n : Nat) (h : shortOf p a b = (l, true)) (hn : l.length = n) (at' ab : Option Addr) (ct cb : Nat) (w : World) (hT : InAt w Any p.types at') (hB : SlAt w Any p.body ab) (hs : p.types.length ≤ 1048576) (hc : p.body.length ≤ 1048576) :
    Calls Try.prog 44 #[.agg #[.slice at' p.types.length ct, .slice ab p.body.length cb], .int .i64 a, .int .i64 b] w (fun e w' => ∃ a' c, e = .returned (.tuple #[.slice a' n c, .bool true]) ∧ Gr w w' none) := by
  refine (implShortWay_any p a b at' ab ct cb w hT hB hs hc).mono ?_
  rw [h]
  rintro e w1 ⟨a', c', rfl, -, -, -, hg, -⟩
  exact ⟨a', c', by rw [zs_length, hn], hg⟩
theorem shortOf_partZ {p : Pr} {a b : Int} {N : List Int} (h1 : zs (shortOf p a b).1 = N) (h2 : (shortOf p a b).2 = true) {i : Nat} (hi : 1 ≤ i) (hl : i < N.length) :
    ∃ (x : Nat) (l : List Nat), N[i] = (x : Int) ∧ shortOf p a x = (l, true) ∧ l.length = i + 1 := by
  obtain ⟨l, hl1⟩ : ∃ l, (shortOf p a b).1 = l := ⟨_, rfl⟩
  have h : shortOf p a b = (l, true) := by rw [← hl1, ← h2]
  rw [hl1] at h1
  subst h1
  have hl' : i < l.length := by rw [zs_length] at hl; exact hl
  exact ⟨l[i], l.take (i + 1), by simp [zs], shortOf_part h hi hl', by simp; omega⟩
end Go.Proofs.Ytadidppbhpdnkaa

/- Walks of slices.IndexFunc, DeleteFunc, ContainsFunc at the closures of LastDominator. -/
import Derived.Test.YtadidppbhpdnkaaF6

namespace Go.Proofs.Ytadidppbhpdnkaa

open Go.RowKit

theorem ld1_any (x b : Int) (bb : Nat) (w : World) (hb : w.cell? ⟨bb, 0, none⟩ = some (.int .i64 b)) :
    Calls Try.prog 64 #[.int .i64 x, .pointer (some ⟨bb, 0, none⟩)] w fun e w' => e = .returned (.bool (decide (x = b))) ∧ w = w' := by
  go_enter Try.func64, Try.ntmps64
  go_wp2
  all_goals go_ret
  all_goals exact ⟨ret_bool (by first | rfl | (simp [*]; done) | (simp_all; done)), rfl⟩
/-- What IndexFunc says: the first one that is b, or none. -/
def FirstB (l : List Int) (b : Int) (w : World) (e : Ending) (w' : World) : Prop :=
  ∃ r : Int, e = .returned (.int .i64 r) ∧ w = w' ∧ ((r = -1 ∧ ∀ x ∈ l, x ≠ b) ∨ ∃ k : Nat, r = k ∧ ∃ h : k < l.length, l[k] = b ∧ ∀ j (hj : j < l.length), j < k → l[j] ≠ b)
set_option maxHeartbeats 400000 in
theorem idx1_any (l : List Int) (b : Int) (bb : Nat) (a : Option Addr) (c : Nat) (w : World) (h : InAt w Any l a) (hl : l.length ≤ 1048576) (hb : w.cell? ⟨bb, 0, none⟩ = some (.int .i64 b)) :
    Calls Try.prog 82 #[.slice a l.length c, .func (.func 64) #[] #[.pointer (some ⟨bb, 0, none⟩)]] w (FirstB l b w) := by
  go_enter Try.func82, Try.ntmps82
  go_wp2
  go_loop [8] (fun i => ∃ k : Nat, k ≤ l.length ∧ i = .int .i64 k ∧ ∀ j (hj : j < l.length), j < k → l[j] ≠ b) (fun i => l.length - (intOf i).toNat)
  case atStart => exact ⟨0, Nat.zero_le _, rfl, fun j _ h => absurd h (by omega)⟩
  case round =>
    obtain ⟨k, hk, rfl, hall⟩ := hrel
    have HA := Lib.hid hall
    clear hall
    by_cases hlt : k < l.length
    · obtain ⟨b1, off, rfl, _, hc⟩ := h.at hlt
      obtain ⟨y, hy⟩ : ∃ y, l[k] = y := ⟨_, rfl⟩
      rw [hy] at hc
      have HY := Lib.hid hy
      clear hy
      cases he : decide (y = b) with
      | true =>
        have HE := Lib.hid he
        clear he
        go_wp2_with (go_at_call 64; refine (ld1_any y b bb _ hb).mono ?_; rw [HE.out]; rintro e w' ⟨rfl, rfl⟩)
        go_ret
        exact ⟨k, rfl, rfl, .inr ⟨k, rfl, hlt, by rw [HY.out]; simpa using HE.out, HA.out⟩⟩
      | false =>
        have HE := Lib.hid he
        clear he
        go_wp2_with (go_at_call 64; refine (ld1_any y b bb _ hb).mono ?_; rw [HE.out]; rintro e w' ⟨rfl, rfl⟩)
        go_round
        case rel => exact ⟨k + 1, by omega, by go_num, fun j hj hjk => by
          by_cases e : j = k
          · subst e; rw [HY.out]; simpa using HE.out
          · exact HA.out j hj (by omega)⟩
        case measure => simp [intOf]; omega
    · have HO := Lib.hid (show ∀ x ∈ l, x ≠ b from fun x hx => by
        obtain ⟨j, hj, rfl⟩ := List.getElem_of_mem hx
        exact HA.out j hj (by omega))
      go_wp2
      go_ret
      exact ⟨-1, rfl, rfl, .inl ⟨rfl, HO.out⟩⟩
theorem others_take {l : List Int} {b : Int} {k : Nat} (h : k < l.length) : others (l.take (k + 1)) b = if l[k] = b then others (l.take k) b else others (l.take k) b ++ [l[k]] := by
  unfold others
  rw [List.take_succ_eq_append_getElem h, List.filter_append]
  by_cases e : l[k] = b
  · rw [if_pos e]; simp [e]
  · rw [if_neg e]; simp [e]
theorem others_same {l : List Int} {b : Int} (h : ∀ x ∈ l, x ≠ b) : others l b = l := by
  unfold others
  exact List.filter_eq_self.2 fun x hx => by simp [h x hx]
/-- The row under way: the first i cells hold what is kept of the first j, the cells from j on are as they were. -/
def Kept (w : World) (l : List Int) (b : Int) (g off i j : Nat) : Prop := InAt w Any (others (l.take j) b) (some ⟨g, off, none⟩) ∧ i = (others (l.take j) b).length ∧ i < j ∧ j ≤ l.length ∧ (∀ t (h : t < l.length), j ≤ t → w.cell? ⟨g, off + t, none⟩ = some (.int .i64 l[t])) ∧ ∀ t, t < l.length → (w.cell? ⟨g, off + t, none⟩).isSome = true ∧ w.frozen? ⟨g, off + t, none⟩ = false
/-- Ints from cells. -/
theorem InAt.cells {w : World} {l : List Int} {g off : Nat} (h : ∀ t (_ : t < l.length), w.cell? ⟨g, off + t, none⟩ = some (.int .i64 l[t])) : InAt w Any l (some ⟨g, off, none⟩) := InAt.of fun t ht => ⟨trivial, h t ht⟩
theorem InAt.cell {w : World} {l : List Int} {g off : Nat} (h : InAt w Any l (some ⟨g, off, none⟩)) {t : Nat} (ht : t < l.length) : w.cell? ⟨g, off + t, none⟩ = some (.int .i64 l[t]) := by
  obtain ⟨b', o', e, -, hc⟩ := h.at ht
  cases e
  exact hc
theorem Kept.skip {w : World} {l : List Int} {b : Int} {g off i j : Nat} (h : Kept w l b g off i j) (hj : j < l.length) (e : l[j] = b) : Kept w l b g off i (j + 1) := by
  obtain ⟨h1, h2, h3, h4, h5, h6⟩ := h
  have ht := others_take (b := b) hj
  rw [if_pos e] at ht
  exact ⟨by rw [ht]; exact h1, by rw [ht]; exact h2, by omega, by omega, fun t ht hjt => h5 t ht (by omega), h6⟩
theorem Kept.keep {w : World} {l : List Int} {b : Int} {g off i j : Nat} (h : Kept w l b g off i j) (hj : j < l.length) (e : l[j] ≠ b) : Kept (w.setCell ⟨g, off + i, none⟩ (.int .i64 l[j])) l b g off (i + 1) (j + 1) := by
  obtain ⟨h1, h2, h3, h4, h5, h6⟩ := h
  have ht := others_take (b := b) hj
  rw [if_neg e] at ht
  refine ⟨?_, by rw [ht]; simp [h2], by omega, by omega, fun t ht hjt => ?_, fun t ht => ⟨?_, ?_⟩⟩
  · rw [ht]
    refine InAt.cells fun t htl => ?_
    by_cases et : t = i
    · subst et
      rw [World.cell?_setCell_same' _ _ _ (h6 t (by omega)).1]
      rw [List.getElem_append_right (by omega)]
      simp [h2]
    · rw [World.cell?_setCell_other _ _ _ _ (by simp <;> omega)]
      have htl2 : t < (others (l.take j) b).length := by simp at htl; omega
      rw [List.getElem_append_left htl2]
      exact h1.cell htl2
  · rw [World.cell?_setCell_other _ _ _ _ (by simp <;> omega)]
    exact h5 t ht (by omega)
  · by_cases et : t = i
    · subst et
      rw [World.cell?_setCell_same' _ _ _ (h6 t ht).1]; rfl
    · rw [World.cell?_setCell_other _ _ _ _ (by simp <;> omega)]
      exact (h6 t ht).1
  · have := (h6 t ht).2
    simpa [World.frozen?_setCell] using this
theorem Kept.start {w : World} {l : List Int} {b : Int} {g off k : Nat} (h : InAt w Any l (some ⟨g, off, none⟩)) (hf : ∀ x : Addr, x.block = g → w.frozen? x = false) (hk : k < l.length) (e : l[k] = b) (hn : ∀ j (hj : j < l.length), j < k → l[j] ≠ b) : Kept w l b g off k (k + 1) := by
  have hs : others (l.take k) b = l.take k := others_same fun x hx => by
    obtain ⟨j, hj, rfl⟩ := List.getElem_of_mem hx
    rw [List.getElem_take]
    simp at hj
    exact hn j (by omega) (by omega)
  have ht := others_take (b := b) hk
  rw [if_pos e, hs] at ht
  refine ⟨?_, by rw [ht]; simp; omega, by omega, by omega, fun t ht _ => h.cell ht, fun t ht => ⟨by rw [h.cell ht]; rfl, hf _ rfl⟩⟩
  rw [ht]
  refine InAt.cells fun t ht2 => ?_
  simp at ht2
  rw [List.getElem_take]
  exact h.cell (by omega)
set_option maxRecDepth 100000 in
set_option maxHeartbeats 1000000 in
theorem del1_any (l : List Int) (b : Int) (bb g off c : Nat) (w : World) (h : InAt w Any l (some ⟨g, off, none⟩)) (hl : l.length ≤ 1048576) (hb : w.cell? ⟨bb, 0, none⟩ = some (.int .i64 b)) (hbg : bb ≠ g) (hf : ∀ x : Addr, x.block = g → w.frozen? x = false) (hc : l.length ≤ c) :
    Calls Try.prog 63 #[.slice (some ⟨g, off, none⟩) l.length c, .func (.func 64) #[] #[.pointer (some ⟨bb, 0, none⟩)]] w fun e w' => ∃ c', e = .returned (.slice (some ⟨g, off, none⟩) (others l b).length c') ∧ InAt w' Any (others l b) (some ⟨g, off, none⟩) ∧ Gr w w' (some g) := by
  go_enter Try.func63, Try.ntmps63
  go_wp2_with fail
  refine (idx1_any l b bb _ c _ h hl hb).mono ?_
  rintro e w1 ⟨r, rfl, rfl, hr⟩
  rcases hr with ⟨rfl, hn⟩ | ⟨k, rfl, hk, e1, hn⟩
  · have HN := Lib.hid (others_same hn)
    clear hn
    go_wp2_with fail
    go_ret
    rw [HN.out]
    exact ⟨c, rfl, h, Gr.refl _ _⟩
  · have hK := Kept.start h hf hk e1 hn
    have hr1 : ((k : Int) == -1) = false := beq_eq_false_iff_ne.2 (by omega)
    have HK := Lib.hid hK
    clear hK e1 hn
    go_wp2_with fail
    go_loopw [5, 6] (fun s u wr => ∃ i j : Nat, s = .int .i64 i ∧ u = .int .i64 j ∧ Kept wr l b g off i j ∧ Gr w wr (some g)) (fun _ u _ => l.length - (intOf u).toNat)
    case atStart => exact ⟨k, k + 1, rfl, by go_num, HK.out, Gr.refl _ _⟩
    case round =>
      obtain ⟨i, j, rfl, rfl, hKt, hg⟩ := hrel
      have hij := hKt.2.2.1
      have hjl := hKt.2.2.2.1
      have HKT := Lib.hid hKt
      have hb2 := hg.cell hb (by simp; exact fun e => hbg e.symm)
      by_cases hlt : j < l.length
      · have cj := hKt.2.2.2.2.1 j hlt (Nat.le_refl _)
        obtain ⟨ci1, ci2⟩ := hKt.2.2.2.2.2 i (by omega)
        obtain ⟨vi, ci⟩ := Option.isSome_iff_exists.1 ci1
        have HG := Lib.hid hg
        obtain ⟨y, hy⟩ : ∃ y, l[j] = y := ⟨_, rfl⟩
        rw [hy] at cj
        have HY := Lib.hid hy
        clear hy hKt hg ci1
        cases he : decide (y = b) with
        | true =>
          have HE := Lib.hid (show l[j] = b by rw [HY.out]; simpa using he)
          go_wp2_with (go_at_call 64; refine (ld1_any y b bb _ hb2).mono ?_; rw [he]; rintro e w' ⟨rfl, rfl⟩)
          go_roundw
          case rel => exact ⟨i, j + 1, rfl, by go_num, HKT.out.skip hlt HE.out, HG.out⟩
          case measure => simp [intOf]; omega
        | false =>
          have HE := Lib.hid (show l[j] ≠ b by rw [HY.out]; simpa using he)
          have HN := Lib.hid (show Kept (wr.setCell ⟨g, off + i, none⟩ (.int .i64 y)) l b g off (i + 1) (j + 1) by have := HKT.out.keep hlt HE.out; rw [HY.out] at this; exact this)
          go_wp2_with (go_at_call 64; refine (ld1_any y b bb _ hb2).mono ?_; rw [he]; rintro e w' ⟨rfl, rfl⟩)
          go_roundw
          case rel => exact ⟨i + 1, j + 1, by go_num, by go_num, HN.out, HG.out.setOwn rfl _⟩
          case measure => simp [intOf]; omega
      · obtain rfl : j = l.length := by omega
        have hcl : ∀ ty, (Builtin.clear_ #[23] ty #[.slice (some ⟨g, off + i, none⟩) (l.length - i) (c - i)]).run Try.prog wr = .ok (.tuple #[]) (wr.setCells g (off + i) (List.replicate (l.length - i) (.int .i64 0))) :=
          fun ty => Lib.run_clear_slice wr _ _ ty _ Try.underlying23 (fun w => Try.zeroValue3 w) rfl rfl g (off + i) _ _ (by omega) (fun t ht => by rw [show off + i + t = off + (i + t) by omega]; exact (HKT.out.2.2.2.2.2 (i + t) (by omega)).1) (fun t ht => by rw [show off + i + t = off + (i + t) by omega]; exact (HKT.out.2.2.2.2.2 (i + t) (by omega)).2)
        have hen : others (l.take l.length) b = others l b := by rw [List.take_length]
        have hI := HKT.out.1
        have hil := HKT.out.2.1
        rw [hen] at hI hil
        have HI := Lib.hid (show InAt (wr.setCells g (off + i) (List.replicate (l.length - i) (.int .i64 0))) Any (others l b) (some ⟨g, off, none⟩) from InAt.cells fun t ht => by
          rw [World.cell?_setCells_out _ _ _ _ _ (fun _ _ => .inl (by show off + t < off + i; omega))]
          exact hI.cell ht)
        have HIL := Lib.hid hil
        have HG := Lib.hid (hg.trans (setCells_gr g (List.replicate (l.length - i) (.int .i64 0)) (off + i) wr) (fun r e => .inl e))
        clear hKt hI hil hen hg
        go_wp2
        go_ret
        rw [← HIL.out]
        exact ⟨c, rfl, HI.out, HG.out⟩
/-- Is there one that x does not come behind? -/
noncomputable def undom (L : List Pt) (x : Int) (c : Int) : Bool := !domL L c.toNat x.toNat
end Go.Proofs.Ytadidppbhpdnkaa

/- Walks of the laws' own helpers: size, equality. -/
import Derived.Test.YtgphnpljjilfjaaV5

import Derived.Deep.RegionWith

namespace Go.Proofs.Ytgphnpljjilfjaa

open Go.RowKit

/-! ### Equal lists are found equal -/

set_option maxHeartbeats 1000000 in
theorem eqIntS_any (l : List Int) (a b : Option Addr) (c c' : Nat) (w : World) (ha : InAt w Any l a) (hb : InAt w Any l b) (hl : l.length ≤ 1048576) :
    Calls Try.prog 28 #[.slice a l.length c, .slice b l.length c'] w fun e w' => e = .returned (.bool true) ∧ Gr w w' none := by
  go_enter Try.func28, Try.ntmps28
  go_wp2
  go_loopw [5] (fun i wr => ∃ k : Nat, k ≤ l.length ∧ i = .int .i64 k ∧ Gr w wr none) (fun i _ => l.length - (intOf i).toNat)
  case atStart => exact ⟨0, Nat.zero_le _, rfl, Gr.refl _ _⟩
  case round =>
    obtain ⟨k, hk, rfl, hg⟩ := hrel
    by_cases hlt : k < l.length
    · obtain ⟨b1, o1, rfl, _, h1⟩ := (ha.gr0 hg).at hlt
      obtain ⟨b2, o2, rfl, _, h2⟩ := (hb.gr0 hg).at hlt
      go_wp2_with fail
      go_quiet (fail)
      go_wp2_with fail
      go_roundw
      case rel => exact ⟨k + 1, by omega, by go_num, hg.drewN _⟩
      case measure => simp [intOf]; omega
    · go_wp2
      go_ret
      exact ⟨rfl, hg⟩

def EqC (n : Nat) : Prop := ∀ (s : St) (at' ae bt be : Option Addr) (ct ce dt de : Nat) (w : World), s.inner + 1 ≤ n →
  SlAt w Any s.thn at' → SlAt w Any s.els ae → SlAt w Any s.thn bt → SlAt w Any s.els be → s.thn.length ≤ maxLen → s.els.length ≤ maxLen →
  Calls Try.prog 83 #[.agg #[.int .i64 s.op, .int .i64 s.x, .int .i64 s.y, .int .i64 s.n, .slice at' s.thn.length ct, .slice ae s.els.length ce], .agg #[.int .i64 s.op, .int .i64 s.x, .int .i64 s.y, .int .i64 s.n, .slice bt s.thn.length dt, .slice be s.els.length de]] w
    fun e w' => e = .returned (.bool true) ∧ Gr w w' none
def EqSC (n : Nat) : Prop := ∀ (l : List St) (a b : Option Addr) (c c' : Nat) (w : World), St.count l ≤ n → l.length ≤ maxLen → SlAt w Any l a → SlAt w Any l b →
  Calls Try.prog 55 #[.slice a l.length c, .slice b l.length c'] w fun e w' => e = .returned (.bool true) ∧ Gr w w' none

set_option maxRecDepth 100000 in
set_option maxHeartbeats 2000000 in
theorem eqs_step (n : Nat) (hS : EqC n) : EqSC n := by
  intro l a b c c' w hn hl ha hb
  have HS := Lib.hid hS
  clear hS
  unfold maxLen at hl
  go_enter Try.func55, Try.ntmps55
  go_wp2
  go_loopw [5] (fun i wr => ∃ k : Nat, k ≤ l.length ∧ i = .int .i64 k ∧ Gr w wr none) (fun i _ => l.length - (intOf i).toNat)
  case atStart => exact ⟨0, Nat.zero_le _, rfl, Gr.refl _ _⟩
  case round =>
    obtain ⟨k, hk, rfl, hg⟩ := hrel
    by_cases hlt : k < l.length
    · obtain ⟨b1, o1, rfl, h1⟩ := (ha.gr0 hg).at hlt
      obtain ⟨b2, o2, rfl, h2⟩ := (hb.gr0 hg).at hlt
      have hin := count_get hlt
      obtain ⟨s, es⟩ : ∃ s, l[k] = s := ⟨_, rfl⟩
      rw [es] at h1 h2 hin
      clear es
      obtain ⟨_, ht, he, at', ct, ae, ce, c0, c1, c2, c3, c4, c5, r4, r5⟩ := h1.out
      obtain ⟨_, _, _, bt, dt, be, de, d0, d1, d2, d3, d4, d5, s4, s5⟩ := h2.out
      go_wp2_with fail
      go_region_with (go_at_call 83; refine (HS.out s at' ae bt be ct ce dt de _ (by omega) (by exact r4.gr0 (Gr.refl _ _).drew) (by exact r5.gr0 (Gr.refl _ _).drew) (by exact s4.gr0 (Gr.refl _ _).drew) (by exact s5.gr0 (Gr.refl _ _).drew) ht he).mono ?_; rintro e w' ⟨rfl, hg2⟩)
      all_goals
        clear c0 c1 c2 c3 c4 c5 d0 d1 d2 d3 d4 d5
        go_wp2_with fail
        go_roundw
        case rel => exact ⟨k + 1, by omega, by go_num, hg.drew.trans0 hg2⟩
        case measure => simp [intOf]; omega
    · go_wp2
      go_ret
      exact ⟨rfl, hg⟩
set_option maxRecDepth 100000 in
set_option maxHeartbeats 2000000 in
theorem eq_step (n : Nat) (hA : EqSC n) : EqC (n + 1) := by
  intro s at' ae bt be ct ce dt de w hn h1 h2 h3 h4 ht he
  obtain ⟨op, x, y, nn, t, e⟩ := s
  simp only [St.thn, St.els, St.op, St.x, St.y, St.n, St.inner] at *
  have HA := Lib.hid hA
  clear hA
  have hg0 : ∀ o o', Gr w ((w.alloc o).alloc o') none := fun o o' => ((Gr.refl _ _).alloc _).alloc _
  go_enter Try.func83, Try.ntmps83
  go_wp2_with fail
  refine (HA.out t at' bt ct dt _ (by omega) ht (h1.gr0 (hg0 _ _)) (h3.gr0 (hg0 _ _))).mono ?_
  rintro e' w1 ⟨rfl, hg1⟩
  have q5 : w1.cell? ⟨w.heap.size, 5, none⟩ = some (.slice ae e.length ce) := hg1.cell (p := ⟨w.heap.size, 5, none⟩) (cell_of_row _ _ _ _ _ _ (heap2_0 _ _ _)) (by simp)
  have q6 : w1.cell? ⟨w.heap.size + 1, 5, none⟩ = some (.slice be e.length de) := hg1.cell (p := ⟨w.heap.size + 1, 5, none⟩) (cell_of_row _ _ _ _ _ _ (heap2_1 _ _ _)) (by simp)
  go_wp2_with fail
  refine (HA.out e ae be ce de _ (by omega) he ((h2.gr0 (hg0 _ _)).gr0 hg1) ((h4.gr0 (hg0 _ _)).gr0 hg1)).mono ?_
  rintro e' w2 ⟨rfl, hg2⟩
  go_wp2_with fail
  go_ret
  exact ⟨rfl, ((hg0 _ _).trans0 hg1).trans0 hg2⟩
theorem eq_all : ∀ n, EqC n ∧ EqSC n
  | 0 => ⟨fun s _ _ _ _ _ _ _ _ _ h => absurd h (by omega), eqs_step 0 (fun s _ _ _ _ _ _ _ _ _ h => absurd h (by omega))⟩
  | n + 1 => ⟨eq_step n (eq_all n).2, eqs_step (n + 1) (eq_step n (eq_all n).2)⟩
set_option maxHeartbeats 1000000 in
theorem eqProgram_any (p : Pr) (at' ab bt bb : Option Addr) (ct cb dt db : Nat) (w : World) (h1 : InAt w Any p.types at') (h2 : SlAt w Any p.body ab) (h3 : InAt w Any p.types bt) (h4 : SlAt w Any p.body bb)
    (hlt : p.types.length ≤ 1048576) (hlb : p.body.length ≤ 1048576) :
    Calls Try.prog 17 #[.agg #[.slice at' p.types.length ct, .slice ab p.body.length cb], .agg #[.slice bt p.types.length dt, .slice bb p.body.length db]] w fun e w' => e = .returned (.bool true) ∧ Gr w w' none := by
  have hg0 : ∀ o o', Gr w ((w.alloc o).alloc o') none := fun o o' => ((Gr.refl _ _).alloc _).alloc _
  go_enter Try.func17, Try.ntmps17
  go_wp2_with fail
  refine (eqIntS_any p.types at' bt ct dt _ (h1.gr0 (hg0 _ _)) (h3.gr0 (hg0 _ _)) hlt).mono ?_
  rintro e' w1 ⟨rfl, hg1⟩
  have q5 : w1.cell? ⟨w.heap.size, 1, none⟩ = some (.slice ab p.body.length cb) := hg1.cell (p := ⟨w.heap.size, 1, none⟩) (cell_of_row _ _ _ _ _ _ (heap2_0 _ _ _)) (by simp)
  have q6 : w1.cell? ⟨w.heap.size + 1, 1, none⟩ = some (.slice bb p.body.length db) := hg1.cell (p := ⟨w.heap.size + 1, 1, none⟩) (cell_of_row _ _ _ _ _ _ (heap2_1 _ _ _)) (by simp)
  go_wp2_with fail
  refine ((eq_all _).2 p.body ab bb cb db _ (Nat.le_refl _) (by unfold maxLen; omega) ((h2.gr0 (hg0 _ _)).gr0 hg1) ((h4.gr0 (hg0 _ _)).gr0 hg1)).mono ?_
  rintro e' w2 ⟨rfl, hg2⟩
  go_wp2_with fail
  go_ret
  exact ⟨rfl, ((hg0 _ _).trans0 hg1).trans0 hg2⟩
end Go.Proofs.Ytgphnpljjilfjaa

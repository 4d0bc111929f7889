/- slices.Concat of two lists of ints. -/
import Derived.Test.YtpnaeijkllmihaaM3

import Derived.Lib.AppendZerosOnto

namespace Go.Proofs.Ytpnaeijkllmihaa

open Go.RowKit Go.Lib

/-- Room for n ints, where there was no list. -/
def Grown (n : Nat) (w : World) (e : Ending) (w' : World) : Prop :=
  Gr w w' none ∧ ((n = 0 ∧ e = .returned (.slice none 0 0)) ∨ ∃ g cap, e = .returned (.slice (some ⟨g, 0, none⟩) 0 cap) ∧ n ≤ cap ∧ Que w' w.heap.size g 0 0 cap [])
theorem zeroCells_size (cs : Array Value) (n : Nat) : (Builtin.zeroCells cs n).size = n * cs.size := by
  unfold Builtin.zeroCells
  first | simp | (simp; omega)
set_option maxRecDepth 100000 in
set_option maxHeartbeats 1000000 in
theorem grow_any (n : Nat) (hn : n ≤ 100000) (w : World) :
    Calls Try.prog 117 #[.slice none 0 0, .int .i64 n] w (Grown n w) := by
  obtain ⟨i0, hi, hz0, hz1, hz2⟩ := info_parts Qinfo
  by_cases h0 : n = 0
  · subst h0
    go_enter Try.func117, Try.ntmps117
    go_wp2
    go_ret
    exact ⟨Gr.refl _ _, .inl ⟨rfl, rfl⟩⟩
  · have hold : (Builtin.firstCells i0.size 0 (.slice none 0 0)).run Try.prog w.drew = .ok ([] : List Value).toArray w.drew := run_firstCells_none w.drew i0.size 0 0 0
    have hcap : Builtin.nextslicecap (0 + n) 0 * i0.bytes ≤ 281474976710656 := by
      refine growslice_fits (by omega) ?_
      rw [hz2]; omega
    have hrz : ∀ ty, (Builtin.append_ #[23, 3] ty #[.slice none 0 0, .int .i64 (n : Int)]).run Try.prog w = _ := fun ty =>
      Lib.run_append_grow_zeros w 23 3 ty 3 i0 (.int .i64 0) .i64 .i64 Try.underlying23 Try.underlying3 hi hz0 none 0 0 [] hold n (by omega) (by rw [hz1]; decide) (by omega) (by omega) (by rw [hz2]; omega) hcap
    have hge : 0 + n ≤ grownCap w (0 + n) 0 3 := grownCap_ge w _ _ _
    have hG63 : grownCap w (0 + n) 0 3 ≤ 9223372036854775807 := by
      have := grownCap_le_maxLen w (0 + n) 0 3 (by unfold maxLen; omega)
      unfold maxLen at this
      omega
    obtain ⟨G, hG⟩ : ∃ G, G = grownCap w (0 + n) 0 3 := ⟨_, rfl⟩
    rw [← hG] at hrz hge hG63
    clear hold hcap hG
    go_enter Try.func117, Try.ntmps117
    go_wp2_with (at_builtin; refine Lib.wpList_append_run _ rfl _ _ _ _ rfl _ _ rfl rfl _ _ (hrz _) ?_)
    all_goals
      go_ret
      refine ⟨(Gr.refl _ _).drew.alloc _, .inr ⟨_, G, rfl, by omega, Nat.le_refl _, by simp, rfl, by omega, fun j hj => ⟨?_, ?_⟩, fun j u hu => by simp [ints] at hu⟩⟩
      · rw [World.cell?_drew, cell_of_row _ _ _ _ _ _ (heap1_0 _ _), Nat.zero_add]
        have : j < (Builtin.zeroCells #[Value.int IntKind.i64 0] n ++ Builtin.zeroCells #[Value.int IntKind.i64 0] (G - n)).size := by rw [Array.size_append, zeroCells_size, zeroCells_size]; simp; omega
        rw [Array.getElem?_eq_getElem this]; rfl
      · exact (frozen?_alloc_cells _ _ _ _).trans (by unfold World.frozen?; rw [Array.getElem?_eq_none (Nat.le_refl _)])

/-- append of nothing to nothing. -/
theorem app_none (w : World) {ops : Array Oper} {rest : List Oper} {o : Oper} {a : Act} {Q : Exit → Act → World → Prop} (hgd : o.guard = none) (s x : Operand)
    (ho : o.op = .call { callee := .builtin .append, args := #[s, x], argTypes := #[23, 23] })
    (hs : a.eval s = .slice none 0 0) (an : Option Addr) (cn n : Nat) (hx : a.eval x = .slice an n cn) (hn : n = 0)
    (h : wpList Try.prog ops Q rest (a.put o.dst (.slice none 0 0)) w) : wpList Try.prog ops Q (o :: rest) a w := by
  subst hn
  obtain ⟨i, hi, hz0, hz1, hz2⟩ := info_parts Qinfo
  refine Lib.wpList_append_run w hgd s x _ _ ho _ _ hs hx _ _ ?_ h
  cases an <;> simp [Builtin.append_, run_underlying Try.underlying23, sizeOf, typeInfo, hi, Builtin.lenOf, Builtin.firstCells, loadCells, loadCellsFrom]

/-- Two lists behind one another, to be read. -/
def Joined (l : List Int) (w : World) (e : Ending) (w' : World) : Prop := ∃ (a : Option Addr) (c : Nat), e = .returned (.slice a l.length c) ∧ InAt w' (fun b _ => w.heap.size ≤ b) l a ∧ l.length ≤ c ∧ Gr w w' none
/-- What the second loop holds. -/
def Cat (w wr : World) (tot : Nat) (l : List Int) (v : Value) : Prop :=
  Gr w wr none ∧ ((tot = 0 ∧ l = [] ∧ v = .slice none 0 0) ∨ ∃ g off cap, v = .slice (some ⟨g, off, none⟩) l.length cap ∧ Que wr w.heap.size g off l.length cap l)
theorem Que.ints {w : World} {base g off n cap : Nat} {l : List Int} (h : Que w base g off n cap l) : InAt w (fun b _ => base ≤ b) l (some ⟨g, off, none⟩) := InAt.of fun _ hi => ⟨h.1, h.cell hi⟩
theorem Cat.joined {w wr : World} {tot : Nat} {l : List Int} {v : Value} (h : Cat w wr tot l v) : Joined l w (.returned v) wr := by
  obtain ⟨hg, ⟨_, rfl, rfl⟩ | ⟨g, off, cap, rfl, hq⟩⟩ := h
  · exact ⟨none, 0, rfl, by simp [InAt], Nat.le_refl _, hg⟩
  · exact ⟨_, _, rfl, hq.ints, hq.2.2.2.1, hg⟩
set_option maxRecDepth 100000 in
set_option maxHeartbeats 2000000 in
theorem concat_any (l m : List Int) (b : Nat) (al am : Option Addr) (cl cm : Nat) (w : World) (c0 : w.cell? ⟨b, 0, none⟩ = some (.slice al l.length cl)) (c1 : w.cell? ⟨b, 1, none⟩ = some (.slice am m.length cm))
    (hl : InAt w Any l al) (hm : InAt w Any m am) (hll : l.length ≤ 10000) (hml : m.length ≤ 10000) :
    Calls Try.prog 105 #[.slice (some ⟨b, 0, none⟩) 2 2] w (Joined (l ++ m) w) := by
  go_enter Try.func105, Try.ntmps105
  go_wp2
  go_loop [3, 11] (fun s i => (s = .int .i64 0 ∧ i = .int .i64 0) ∨ (s = .int .i64 (l.length : Nat) ∧ i = .int .i64 1) ∨ (s = .int .i64 ((l.length + m.length : Nat) : Int) ∧ i = .int .i64 2)) (fun _ i => 2 - (intOf i).toNat)
  case atStart => exact .inl ⟨rfl, rfl⟩
  case round =>
    rcases hrel with ⟨rfl, rfl⟩ | ⟨rfl, rfl⟩ | ⟨rfl, rfl⟩
    · go_wp2
      go_round
      case rel => exact .inr (.inl ⟨by go_num, rfl⟩)
      case measure => simp [intOf]
    · go_wp2
      go_round
      case rel => exact .inr (.inr ⟨by go_num, rfl⟩)
      case measure => simp [intOf]
    · have hsum : l.length + m.length ≤ 100000 := by omega
      obtain ⟨tot, htot⟩ : ∃ tot, l.length + m.length = tot := ⟨_, rfl⟩
      have HT := Lib.hid htot
      rw [htot] at hsum ⊢
      clear htot
      go_wp2_with fail
      refine (grow_any tot hsum _).mono ?_
      rintro e w1 ⟨hg1, hcase⟩
      have hS : ∃ v, e = .returned v ∧ Cat w w1 tot [] v := by
        rcases hcase with ⟨rfl, rfl⟩ | ⟨g, cap, rfl, hcp, hq⟩
        · exact ⟨_, rfl, hg1, .inl ⟨rfl, rfl, rfl⟩⟩
        · exact ⟨_, rfl, hg1, .inr ⟨g, 0, cap, rfl, hq⟩⟩
      obtain ⟨v, rfl, hC⟩ := hS
      clear hcase
      go_wp2_with fail
      go_loopw [6, 27] (fun v i wr => (i = .int .i64 0 ∧ Cat w wr tot [] v) ∨ (i = .int .i64 1 ∧ Cat w wr tot l v) ∨ (i = .int .i64 2 ∧ Cat w wr tot (l ++ m) v)) (fun _ i _ => 2 - (intOf i).toNat)
      case atStart => exact .inl ⟨rfl, hC⟩
      case round =>
        clear hC hg1
        rcases hrel with ⟨rfl, hg, hc⟩ | ⟨rfl, hg, hc⟩ | ⟨rfl, hC⟩
        · replace c0 := hg.cell c0 (by simp)
          have hl' := hl.gr0 hg
          rcases hc with ⟨ht0, _, rfl⟩ | ⟨g, off, cap, rfl, hq⟩
          · have h0 : l.length = 0 := by have := HT.out; omega
            have H0 := Lib.hid h0
            have H00 := Lib.hid ht0
            clear h0 ht0
            go_wp2_with (at_builtin; refine app_none _ rfl (.tmp 31) (.tmp 32) rfl rfl al cl l.length rfl H0.out ?_)
            go_roundw
            case rel => exact .inr (.inl ⟨rfl, hg, .inl ⟨H00.out, List.eq_nil_of_length_eq_zero H0.out, rfl⟩⟩)
            case measure => simp [intOf]
          · go_wp2_with (at_builtin; refine app_q wr rfl (.tmp 31) (.tmp 32) rfl w.heap.size g off ([] : List Int).length cap [] rfl hq al cl l rfl hl' (by simp; omega) ?_; rintro g' off' cap' w' hQ' hg')
            go_roundw
            case rel => exact .inr (.inl ⟨rfl, hg.trans hg' (fun r hr => .inr (by cases hr; exact hq.1)), .inr ⟨g', off', cap', by simp, by simpa using hQ'⟩⟩)
            case measure => simp [intOf]
        · replace c1 := hg.cell c1 (by simp)
          have hm' := hm.gr0 hg
          rcases hc with ⟨ht0, hl0, rfl⟩ | ⟨g, off, cap, rfl, hq⟩
          · have h0 : m.length = 0 := by have := HT.out; omega
            have H0 := Lib.hid h0
            have H00 := Lib.hid ht0
            have HL0 := Lib.hid hl0
            clear h0 hl0 ht0
            go_wp2_with (at_builtin; refine app_none _ rfl (.tmp 31) (.tmp 32) rfl rfl am cm m.length rfl H0.out ?_)
            go_roundw
            case rel => exact .inr (.inr ⟨rfl, hg, .inl ⟨H00.out, by rw [HL0.out, List.eq_nil_of_length_eq_zero H0.out]; rfl, rfl⟩⟩)
            case measure => simp [intOf]
          · go_wp2_with (at_builtin; refine app_q wr rfl (.tmp 31) (.tmp 32) rfl w.heap.size g off l.length cap l rfl hq am cm m rfl hm' (by omega) ?_; rintro g' off' cap' w' hQ' hg')
            go_roundw
            case rel => exact .inr (.inr ⟨rfl, hg.trans hg' (fun r hr => .inr (by cases hr; exact hq.1)), .inr ⟨g', off', cap', by simp, by simpa using hQ'⟩⟩)
            case measure => simp [intOf]
        · go_wp2_with fail
          go_ret
          exact hC.joined
theorem concat_two (l m : List Int) (n1 n2 : Nat) (e1 : l.length = n1) (e2 : m.length = n2) (b : Nat) (al am : Option Addr) (cl cm : Nat) (w : World) (c0 : w.cell? ⟨b, 0, none⟩ = some (.slice al n1 cl)) (c1 : w.cell? ⟨b, 1, none⟩ = some (.slice am n2 cm))
    (hl : InAt w Any l al) (hm : InAt w Any m am) (hll : n1 ≤ 10000) (hml : n2 ≤ 10000) :
    Calls Try.prog 105 #[.slice (some ⟨b, 0, none⟩) 2 2] w (Joined (l ++ m) w) := by
  subst e1 e2
  exact concat_any l m b al am cl cm w c0 c1 hl hm hll hml
end Go.Proofs.Ytpnaeijkllmihaa

/- Lists of lists of ints: read out of an argument, sized, copied, compared. -/
import Derived.Test.YtdnhinkjmjpnnaaA

import Derived.Test.YtdnhinkjmjpnnaaH1

import Derived.Deep.RegionWith

namespace Go.Proofs.Ytdnhinkjmjpnnaa

open Go.RowKit Go.ChangeShapes Go.WideShapes Go.Deep

/-- The lists LL lie from a on. -/
def ListsAt (w : World) (LL : List (List Int)) (a : Option Addr) : Prop :=
  ∀ k (h : k < LL.length), ∃ b o x c, a = some ⟨b, o, none⟩ ∧ w.cell? ⟨b, o + k, none⟩ = some (.slice x LL[k].length c) ∧ InAt w Any LL[k] x
theorem ListsAt.gr0 {w w' : World} {LL : List (List Int)} {a : Option Addr} (h : ListsAt w LL a) (hg : Gr w w' none) : ListsAt w' LL a := fun k hk => by
  obtain ⟨b, o, x, c, e, hc, hI⟩ := h k hk
  exact ⟨b, o, x, c, e, hg.cell hc (by simp), hI.gr0 hg⟩
section

variable {H : Type} {enc : TypeId × Value → H} {w : World} {spare : Nat → Bool} {held : Bool}

theorem cellsInts : Try.prog.cellsOf 22 = 1 := by kernel_rfl
/-- Lists of lists of ints that came in. -/
theorem open_intSS {base fuel : Nat} {v : Value} {x : DataW H × List MemPlace} (h : DataW.trod enc Try.prog w base spare held fuel 51 [v] = some x) :
    ∃ (LL : List (List Int)) (a : Option Addr) (c : Nat), v = .slice a LL.length c ∧ LL.length ≤ maxLen ∧ (∀ k (h : k < LL.length), LL[k].length ≤ maxLen) ∧ ListsAt w LL a := by
  rcases DataW.trod_slice Try.underlying51 h with ⟨hv, _⟩ | ⟨a, len, cap, elems, rest, n, _, hcs, _, _, hl, hm, _, hel, _⟩
  · simp only [List.cons.injEq, and_true] at hv
    subst hv
    exact ⟨[], none, 0, rfl, by unfold maxLen; simp, fun k hk => absurd hk (by simp), fun k hk => absurd hk (by simp)⟩
  · simp only [List.cons.injEq, and_true] at hcs
    subst hcs
    have hall : ∀ i, i < len → ∃ z : List Int, ∃ x c, w.cell? (a.add i) = some (.slice x z.length c) ∧ z.length ≤ maxLen ∧ InAt w Any z x := by
      intro i hi
      have he := hel i hi
      rw [cellsInts, Nat.mul_one] at he
      rename_i hle
      have hsome : ∃ y, elems[i]? = some y := ⟨elems[i]'(by omega), List.getElem?_eq_getElem _⟩
      obtain ⟨y, hy⟩ := hsome
      rw [hy] at he
      obtain ⟨cs', h1, h2⟩ := Option.bind_eq_some_iff.1 he
      obtain ⟨_, hcl, hat⟩ := World.cells?_some h1
      obtain ⟨v', rfl⟩ : ∃ v', cs' = [v'] := by
        match cs', hcl with
        | [v'], _ => exact ⟨v', rfl⟩
      obtain ⟨z, x, c, rfl, hz, hI⟩ := open_intS h2
      refine ⟨z, x, c, ?_, hz, hI⟩
      have := hat 0 (by simp)
      simpa [Addr.add] using this
    obtain ⟨f, hf⟩ := choose_lt hall
    refine ⟨(List.range len).map f, some a, cap, by simp, by simp; omega, fun k hk => ?_, fun k hk => ?_⟩
    · have hk' : k < len := by simpa using hk
      obtain ⟨_, _, _, h2, _⟩ := hf k hk'
      simpa using h2
    · have hk' : k < len := by simpa using hk
      obtain ⟨x, c, h1, _, h3⟩ := hf k hk'
      obtain ⟨b, off, sp⟩ := a
      have hsp : sp = none := by obtain ⟨_, _, h0, _⟩ := hf 0 (by omega); have := World.cell?_spot h0; simpa [Addr.add] using this
      subst hsp
      refine ⟨b, off, x, c, rfl, ?_, by simpa using h3⟩
      simp only [List.getElem_map, List.getElem_range]
      by_cases e : k = 0
      · subst e; simpa [Addr.add] using h1
      · simpa [Addr.add, e] using h1
end

/-- What szIntSS says. -/
def SizedSS (LL : List (List Int)) (w : World) (e : Ending) (w' : World) : Prop :=
  ∃ r : Int, e = .returned (.int .i64 r) ∧ (r < 0 ∨ (LL.length ≤ 1048576 ∧ ∀ k (h : k < LL.length), LL[k].length ≤ 1048576)) ∧ Gr w w' none
set_option maxRecDepth 100000 in
set_option maxHeartbeats 1000000 in
theorem szIntSS_any (LL : List (List Int)) (a : Option Addr) (c : Nat) (left : Int) (w : World) (h0 : 0 ≤ left) (h1 : left ≤ 1048576) (hl : LL.length ≤ maxLen) (hll : ∀ k (h : k < LL.length), LL[k].length ≤ maxLen) (hI : ListsAt w LL a) :
    Calls Try.prog 38 #[.slice a LL.length c, .int .i64 left] w (SizedSS LL w) := by
  unfold maxLen at hl
  by_cases hlen : left < LL.length
  · go_enter Try.func38, Try.ntmps38
    go_wp2
    go_ret
    exact ⟨-1, rfl, .inl (by omega), Gr.refl _ _⟩
  · go_enter Try.func38, Try.ntmps38
    go_wp2
    go_loopw [1, 5] (fun r i wr => ∃ (k : Nat) (q : Int), k ≤ LL.length ∧ i = .int .i64 k ∧ r = .int .i64 q ∧ 0 ≤ q ∧ q ≤ 1048576 ∧ (∀ j (h : j < LL.length), j < k → LL[j].length ≤ 1048576) ∧ Gr w wr none) (fun _ i _ => LL.length - (intOf i).toNat)
    case atStart => exact ⟨0, _, Nat.zero_le _, rfl, rfl, by omega, by omega, fun j _ h => absurd h (by omega), Gr.refl _ _⟩
    case round =>
      obtain ⟨k, q, hk, rfl, rfl, hq0, hq1, hJ, hg⟩ := hrel
      have HJ := Lib.hid hJ
      clear hJ
      by_cases hlt : k < LL.length
      · obtain ⟨b, o, x, cx, rfl, hc, -⟩ := (hI.gr0 hg) k hlt
        have hm := hll k hlt
        have HN := Lib.hid (fun (y : List Int) (e : LL[k] = y) (hy : y.length ≤ 1048576) => show ∀ j (h : j < LL.length), j < k + 1 → LL[j].length ≤ 1048576 from fun j h hj => by
          by_cases e' : j = k
          · subst e'; rw [e]; exact hy
          · exact HJ.out j h (by omega))
        obtain ⟨y, hy⟩ : ∃ y, LL[k] = y := ⟨_, rfl⟩
        rw [hy] at hc hm
        have HY := Lib.hid hy
        clear hy
        go_wp2_with fail
        refine (szIntS_any y x cx q _ hq0 hq1 hm).mono ?_
        rintro e w2 ⟨r, rfl, hr, hg2⟩
        by_cases hneg : r < 0
        · clear hr
          go_wp2_with fail
          go_ret
          exact ⟨-1, rfl, .inl (by omega), hg.trans0 hg2⟩
        · obtain rfl : r = q - y.length := by omega
          clear hr
          go_wp2_with fail
          go_roundw
          case rel => exact ⟨k + 1, _, by omega, by go_num, rfl, by omega, by omega, HN.out y HY.out (by omega), hg.trans0 hg2⟩
          case measure => simp [intOf]; omega
      · obtain rfl : k = LL.length := by omega
        go_wp2_with fail
        go_ret
        exact ⟨q, rfl, .inr ⟨by omega, fun j h => HJ.out j h h⟩, hg⟩
set_option maxRecDepth 100000 in
set_option maxHeartbeats 1000000 in
theorem eqIntSS_any (LL : List (List Int)) (a b : Option Addr) (c c' : Nat) (w : World) (ha : ListsAt w LL a) (hb : ListsAt w LL b) (hl : LL.length ≤ 1048576) (hll : ∀ k (h : k < LL.length), LL[k].length ≤ 1048576) :
    Calls Try.prog 42 #[.slice a LL.length c, .slice b LL.length c'] w fun e w' => e = .returned (.bool true) ∧ Gr w w' none := by
  go_enter Try.func42, Try.ntmps42
  go_wp2
  go_loopw [5] (fun i wr => ∃ k : Nat, k ≤ LL.length ∧ i = .int .i64 k ∧ Gr w wr none) (fun i _ => LL.length - (intOf i).toNat)
  case atStart => exact ⟨0, Nat.zero_le _, rfl, Gr.refl _ _⟩
  case round =>
    obtain ⟨k, hk, rfl, hg⟩ := hrel
    by_cases hlt : k < LL.length
    · obtain ⟨b1, o1, x1, c1, rfl, h1, r1⟩ := (ha.gr0 hg) k hlt
      obtain ⟨b2, o2, x2, c2, rfl, h2, r2⟩ := (hb.gr0 hg) k hlt
      have hm := hll k hlt
      obtain ⟨y, hy⟩ : ∃ y, LL[k] = y := ⟨_, rfl⟩
      rw [hy] at h1 h2 r1 r2 hm
      clear hy
      go_wp2_with fail
      go_region_with (go_at_call 25; refine (eqIntS_any y x1 x2 c1 c2 _ (by exact r1.gr0 (Gr.refl _ _).drew) (by exact r2.gr0 (Gr.refl _ _).drew) hm).mono ?_; rintro e w' ⟨rfl, hg2⟩)
      all_goals
        go_wp2_with fail
        go_roundw
        case rel => exact ⟨k + 1, by omega, by go_num, (hg.drew).trans0 hg2⟩
        case measure => simp [intOf]; omega
    · go_wp2
      go_ret
      exact ⟨rfl, hg⟩
/-- Lists on the way into a new row. -/
def FillSS (w : World) (g : Nat) (LL : List (List Int)) (k : Nat) : Prop :=
  ∃ arr : Array Value, w.heap[g]? = some (.cells arr 22 (0, 0)) ∧ arr.size = LL.length ∧ ∀ j (h : j < LL.length), j < k → ∃ x c, arr[j]? = some (.slice x LL[j].length c) ∧ InAt w (fun b _ => g ≠ b) LL[j] x
theorem FillSS.cell {w : World} {g k : Nat} {LL : List (List Int)} (h : FillSS w g LL k) {j : Nat} (hj : j < LL.length) : ∃ v, w.cell? ⟨g, j, none⟩ = some v := by
  obtain ⟨arr, h1, h2, _⟩ := h
  exact ⟨arr[j]'(by omega), by rw [cell_of_row w g j _ _ _ h1]; simp [h2, hj]⟩
theorem FillSS.free {w : World} {g k : Nat} {LL : List (List Int)} (h : FillSS w g LL k) (j : Nat) : w.frozen? ⟨g, j, none⟩ = false := by
  obtain ⟨arr, h1, _⟩ := h
  simp [World.frozen?, h1]
theorem FillSS.gr0 {w w' : World} {g k : Nat} {LL : List (List Int)} (h : FillSS w g LL k) (hg : Gr w w' none) : FillSS w' g LL k := by
  obtain ⟨arr, h1, h2, h3⟩ := h
  exact ⟨arr, (hg.block g (Array.getElem?_eq_some_iff.1 h1).1 (by simp)).trans h1, h2, fun j hj hjk => by obtain ⟨x, c, e, hI⟩ := h3 j hj hjk; exact ⟨x, c, e, hI.gr0 hg⟩⟩
theorem FillSS.step {w : World} {g k : Nat} {LL : List (List Int)} (h : FillSS w g LL k) (hk : k < LL.length) {x : Option Addr} {c : Nat} (hI : InAt w (fun b _ => g ≠ b) LL[k] x) : FillSS (w.setCell ⟨g, k, none⟩ (.slice x LL[k].length c)) g LL (k + 1) := by
  obtain ⟨arr, h1, h2, h3⟩ := h
  have hS : Gr w (w.setCell ⟨g, k, none⟩ (.slice x LL[k].length c)) (some g) := (Gr.refl _ _).setOwn rfl _
  refine ⟨_, row_set _ h1, by simpa using h2, fun j hj hjk => ?_⟩
  by_cases e : j = k
  · subst e; exact ⟨x, c, by simp [h2, hj], hI.gr hS (fun b _ hb e => hb (Option.some.inj e))⟩
  · obtain ⟨x', c', e', hI'⟩ := h3 j hj (by omega)
    exact ⟨x', c', by rw [Array.getElem?_setIfInBounds_ne (by omega)]; exact e', hI'.gr hS (fun b _ hb e => hb (Option.some.inj e))⟩
theorem FillSS.done {w : World} {g : Nat} {LL : List (List Int)} (h : FillSS w g LL LL.length) : ListsAt w LL (some ⟨g, 0, none⟩) := by
  obtain ⟨arr, h1, h2, h3⟩ := h
  intro k hk
  obtain ⟨x, c, e, hI⟩ := h3 k hk hk
  exact ⟨g, 0, x, c, rfl, by rw [cell_of_row w g (0 + k) _ _ _ h1, Nat.zero_add]; exact e, hI.any⟩
theorem Lsinfo : (Try.prog.info? 22).map (fun i => (i.zero, i.size, i.bytes)) = some (some (.slice none 0 0), 1, 24) := by kernel_rfl
/-- A copy of lists of ints. -/
def CopiedSS (LL : List (List Int)) (w : World) (e : Ending) (w' : World) : Prop :=
  ∃ (g : Nat), e = .returned (.slice (some ⟨g, 0, none⟩) LL.length LL.length) ∧ ListsAt w' LL (some ⟨g, 0, none⟩) ∧ Gr w w' none
set_option maxRecDepth 100000 in
set_option maxHeartbeats 1000000 in
theorem toIntSS_any (LL : List (List Int)) (a : Option Addr) (c : Nat) (w : World) (h : ListsAt w LL a) (hl : LL.length ≤ 1048576) (hll : ∀ k (h : k < LL.length), LL[k].length ≤ 1048576) :
    Calls Try.prog 40 #[.slice a LL.length c] w (CopiedSS LL w) := by
  have hmk := fun w : World => run_make_row' (P := Try.prog) 51 22 (.slice none 0 0) 24 Try.underlying51 Lsinfo rfl .i64 .i64 LL.length (by omega) (by omega) w
  go_enter Try.func40, Try.ntmps40
  go_wp2
  have hF0 : FillSS (w.alloc (.cells (madeCells #[.slice none 0 0] LL.length) 22)) w.heap.size LL 0 := ⟨_, heap1_0 _ _, by simp [madeCells], by omega⟩
  have hG0 : Gr w (w.alloc (.cells (madeCells #[.slice none 0 0] LL.length) 22)) none := (Gr.refl _ _).alloc _
  go_loopw [4] (fun i wr => ∃ k : Nat, k ≤ LL.length ∧ i = .int .i64 k ∧ FillSS wr w.heap.size LL k ∧ Gr w wr none) (fun i _ => LL.length - (intOf i).toNat)
  case atStart => exact ⟨0, Nat.zero_le _, rfl, hF0, hG0⟩
  case round =>
    obtain ⟨k, hk, rfl, hF, hG⟩ := hrel
    clear hmk hF0 hG0
    by_cases hlt : k < LL.length
    · obtain ⟨b, off, x, cx, rfl, hc, hx⟩ := (h.gr0 hG) k hlt
      have hm := hll k hlt
      have HST := Lib.hid (fun (y : List Int) (e : LL[k] = y) (w4 : World) (g : Nat) (h4 : FillSS w4 w.heap.size LL k) (hI : InAt w4 (fun b _ => w.heap.size ≠ b) y (some ⟨g, 0, none⟩)) => show FillSS (w4.setCell ⟨w.heap.size, k, none⟩ (.slice (some ⟨g, 0, none⟩) y.length y.length)) w.heap.size LL (k + 1) from by
        subst e; exact h4.step hlt hI)
      obtain ⟨y, hy⟩ : ∃ y, LL[k] = y := ⟨_, rfl⟩
      rw [hy] at hc hx hm
      have HY := Lib.hid hy
      have HF := Lib.hid hF
      have hsz : w.heap.size < wr.heap.size := by obtain ⟨v, hv⟩ := hF.cell hlt; exact lt_of_cell hv
      clear hy hF
      go_wp2_with fail
      refine (toIntS_any y x cx _ hx hm).mono ?_
      rintro e w4 ⟨g, rfl, hI, hg4, -⟩
      have hF4 := HF.out.gr0 hg4
      obtain ⟨v, hv⟩ := hF4.cell hlt
      have hf := hF4.free k
      have HI := Lib.hid (show InAt w4 (fun b _ => w.heap.size ≠ b) y (some ⟨g, 0, none⟩) from hI.mono (fun b _ hb => by omega) (fun _ _ _ _ h => h))
      have HF4 := Lib.hid hF4
      have HG4 := Lib.hid (hG.trans0 hg4)
      clear hI hg4 hF4
      go_wp2_with fail
      go_roundw
      case rel => exact ⟨k + 1, by omega, by go_num, HST.out y HY.out _ _ HF4.out HI.out, HG4.out.setNew (Nat.le_refl _) _⟩
      case measure => simp [intOf]; omega
    · obtain rfl : k = LL.length := by omega
      go_wp2
      go_ret
      exact ⟨_, rfl, hF.done, hG⟩
end Go.Proofs.Ytdnhinkjmjpnnaa

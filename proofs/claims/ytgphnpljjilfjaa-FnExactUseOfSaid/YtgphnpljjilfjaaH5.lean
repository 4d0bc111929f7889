/- Walks of the laws' own helpers: size, copies. -/
/- Walks of the laws' own helpers: copies of a program. -/
/- Walks of the laws' own helpers: copies of a program's statements. -/
/- Walks of the laws' own helpers: a copy of a program. -/
import Derived.Test.YtgphnpljjilfjaaV5

import Derived.Laws.MakeOwn

import Derived.Deep.OwnRows

namespace Go.Proofs.Ytgphnpljjilfjaa

open Go.RowKit

/-! ### Size -/

def Sized (c : Nat) (left : Int) (w : World) (e : Ending) (w' : World) : Prop :=
  ∃ r : Int, e = .returned (.int .i64 r) ∧ ((0 ≤ r ∧ r = left - c) ∨ (r = -1 ∧ left < c)) ∧ Gr w w' none
theorem szIntS_any (l : List Int) (a : Option Addr) (c : Nat) (left : Int) (w : World) (h0 : 0 ≤ left) (h1 : left ≤ 1048576) (hl : l.length ≤ maxLen) :
    Calls Try.prog 46 #[.slice a l.length c, .int .i64 left] w (Sized l.length left w) := by
  unfold maxLen at hl
  go_enter Try.func46, Try.ntmps46
  by_cases h : left < l.length
  · go_wp2
    go_ret
    exact ⟨-1, rfl, .inr ⟨rfl, h⟩, Gr.refl _ _⟩
  · go_wp2
    go_ret
    exact ⟨left - l.length, rfl, .inl ⟨by omega, rfl⟩, Gr.refl _ _⟩

def SzC (n : Nat) : Prop := ∀ (s : St) (at' ae : Option Addr) (ct ce : Nat) (left : Int) (w : World), s.inner + 1 ≤ n → 0 ≤ left → left ≤ 1048576 →
  SlAt w Any s.thn at' → SlAt w Any s.els ae → s.thn.length ≤ maxLen → s.els.length ≤ maxLen →
  Calls Try.prog 77 #[.agg #[.int .i64 s.op, .int .i64 s.x, .int .i64 s.y, .int .i64 s.n, .slice at' s.thn.length ct, .slice ae s.els.length ce], .int .i64 left] w (Sized s.inner left w)
def SzSC (n : Nat) : Prop := ∀ (l : List St) (a : Option Addr) (c : Nat) (left : Int) (w : World), St.count l ≤ n → 0 ≤ left → left ≤ 1048576 → l.length ≤ maxLen → SlAt w Any l a →
  Calls Try.prog 47 #[.slice a l.length c, .int .i64 left] w (Sized (St.count l) left w)
theorem count_take_ge (l : List St) (k : Nat) (h : k ≤ l.length) : St.count (l.take k) + (l.length - k) ≤ St.count l := by
  induction l generalizing k with
  | nil => simp [St.count]
  | cons s r ih =>
    have h1 : r.length ≤ St.count r := by
      clear ih h
      induction r with
      | nil => simp
      | cons s r ih => simp only [List.length_cons, St.count]; omega
    cases k with
    | zero => simp only [List.take_zero, St.count, List.length_cons]; omega
    | succ k => have := ih k (by simpa using h); simp only [List.take_succ_cons, St.count, List.length_cons]; omega
theorem length_count (l : List St) : l.length ≤ St.count l := by have := count_take_ge l 0 (Nat.zero_le _); simp [St.count] at this; exact this

set_option maxRecDepth 100000 in
set_option maxHeartbeats 1000000 in
theorem szs_step (n : Nat) (hS : SzC n) : SzSC n := by
  intro l a c left w hn h0 h1 hl hL
  have HS := Lib.hid hS
  clear hS
  have hlc := length_count l
  unfold maxLen at hl
  by_cases hlen : left < l.length
  · go_enter Try.func47, Try.ntmps47
    go_wp2
    go_ret
    exact ⟨-1, rfl, .inr ⟨rfl, by omega⟩, Gr.refl _ _⟩
  · go_enter Try.func47, Try.ntmps47
    go_wp2
    go_loopw [1, 5] (fun r i wr => ∃ (k : Nat) (q : Int), k ≤ l.length ∧ i = .int .i64 k ∧ r = .int .i64 q ∧ 0 ≤ q ∧ q + St.count (l.take k) + (l.length - k : Nat) = left ∧ Gr w wr none) (fun _ i _ => l.length - (intOf i).toNat)
    case atStart => exact ⟨0, left - l.length, Nat.zero_le _, rfl, rfl, by omega, by simp [St.count], Gr.refl _ _⟩
    case round =>
      obtain ⟨k, q, hk, rfl, rfl, hq0, hq1, hg⟩ := hrel
      have hq2 : q ≤ 1048576 := by omega
      have HQ := Lib.hid hq1
      clear hq1
      by_cases hlt : k < l.length
      · obtain ⟨b, off, rfl, hs⟩ := (hL.gr0 hg).at hlt
        have hct := count_take_succ hlt
        have hge := count_take_ge l (k + 1) hlt
        have hin := count_get hlt
        obtain ⟨s, es⟩ : ∃ s, l[k] = s := ⟨_, rfl⟩
        rw [es] at hs hin hct
        clear es
        have HCT := Lib.hid hct
        clear hct
        obtain ⟨_, ht, he, at', ct, ae, ce, c0, c1, c2, c3, c4, c5, r4, r5⟩ := hs.out
        go_wp2_with fail
        refine (HS.out s at' ae ct ce q wr (by omega) hq0 hq2 r4 r5 ht he).mono ?_
        rintro e w' ⟨r, rfl, hr, hg2⟩
        clear c0 c1 c2 c3 c4 c5 hs r4 r5
        rcases hr with ⟨hr0, hr1⟩ | ⟨hr0, hr1⟩
        · have HR := Lib.hid hr1
          clear hr1
          go_wp2_with fail
          go_roundw
          case rel => exact ⟨k + 1, r, by omega, by go_num, rfl, hr0, by have := HR.out; have := HQ.out; have := HCT.out; omega, hg.trans0 hg2⟩
          case measure => simp [intOf]; omega
        · subst hr0
          go_wp2_with fail
          go_ret
          exact ⟨-1, rfl, .inr ⟨rfl, by have := HQ.out; have := HCT.out; omega⟩, hg.trans0 hg2⟩
      · have hf : l.take k = l := List.take_of_length_le (by omega)
        have hq3 := HQ.out
        rw [hf] at hq3
        have HQ3 := Lib.hid hq3
        clear hq3 hf
        go_wp2
        go_ret
        exact ⟨q, rfl, .inl ⟨hq0, by have := HQ3.out; omega⟩, hg⟩
set_option maxRecDepth 100000 in
set_option maxHeartbeats 1000000 in
theorem sz_step (n : Nat) (hA : SzSC n) : SzC (n + 1) := by
  intro s at' ae ct ce left w hn h0 h1 hT hE ht he
  obtain ⟨op, x, y, nn, t, e⟩ := s
  simp only [St.thn, St.els, St.op, St.x, St.y, St.n, St.inner] at *
  have HA := Lib.hid hA
  clear hA
  have hg0 : ∀ o, Gr w (w.alloc o) none := fun o => (Gr.refl _ _).alloc _
  go_enter Try.func77, Try.ntmps77
  go_wp2_with fail
  refine (HA.out t at' ct left _ (by omega) h0 h1 ht (hT.gr0 (hg0 _))).mono ?_
  rintro e' w1 ⟨r, rfl, hr, hg1⟩
  have q5 : w1.cell? ⟨w.heap.size, 5, none⟩ = some (.slice ae e.length ce) := hg1.cell (p := ⟨w.heap.size, 5, none⟩) (cell?_new6 _ _).2 (by simp)
  rcases hr with ⟨hr0, hr1⟩ | ⟨hr0, hr1⟩
  · have hr2 : r ≤ 1048576 := by omega
    have HR := Lib.hid hr1
    clear hr1
    go_wp2_with fail
    refine (HA.out e ae ce r _ (by omega) hr0 hr2 he ((hE.gr0 (hg0 _)).gr0 hg1)).mono ?_
    rintro e' w2 ⟨r2, rfl, hr3, hg2⟩
    rcases hr3 with ⟨hr4, hr5⟩ | ⟨hr4, hr5⟩
    · have HR2 := Lib.hid hr5
      clear hr5
      go_wp2_with fail
      go_ret
      exact ⟨r2, rfl, .inl ⟨hr4, by have := HR.out; have := HR2.out; omega⟩, ((hg0 _).trans0 hg1).trans0 hg2⟩
    · subst hr4
      go_wp2_with fail
      go_ret
      exact ⟨-1, rfl, .inr ⟨rfl, by have := HR.out; omega⟩, ((hg0 _).trans0 hg1).trans0 hg2⟩
  · subst hr0
    go_wp2_with fail
    go_ret
    exact ⟨-1, rfl, .inr ⟨rfl, by omega⟩, (hg0 _).trans0 hg1⟩
theorem sz_all : ∀ n, SzC n ∧ SzSC n
  | 0 => ⟨fun s _ _ _ _ _ _ h => absurd h (by omega), szs_step 0 (fun s _ _ _ _ _ _ h => absurd h (by omega))⟩
  | n + 1 => ⟨sz_step n (sz_all n).2, szs_step (n + 1) (sz_step n (sz_all n).2)⟩
def Pr.size (p : Pr) : Nat := p.types.length + St.count p.body
set_option maxHeartbeats 1000000 in
theorem szProgram_any (p : Pr) (at' ab : Option Addr) (ct cb : Nat) (w : World) (hB : SlAt w Any p.body ab) (hlt : p.types.length ≤ maxLen) (hlb : p.body.length ≤ maxLen) :
    Calls Try.prog 13 #[.agg #[.slice at' p.types.length ct, .slice ab p.body.length cb], .int .i64 1048576] w (Sized p.size 1048576 w) := by
  have hg0 : ∀ o, Gr w (w.alloc o) none := fun o => (Gr.refl _ _).alloc _
  go_enter Try.func13, Try.ntmps13
  go_wp2_with fail
  refine (szIntS_any p.types at' ct 1048576 _ (by omega) (by omega) hlt).mono ?_
  rintro e' w1 ⟨r, rfl, hr, hg1⟩
  have q5 : w1.cell? ⟨w.heap.size, 1, none⟩ = some (.slice ab p.body.length cb) := hg1.cell (p := ⟨w.heap.size, 1, none⟩) (cell?_new2 _ _).2 (by simp)
  rcases hr with ⟨hr0, hr1⟩ | ⟨hr0, hr1⟩
  · have hr2 : r ≤ 1048576 := by omega
    have HR := Lib.hid hr1
    clear hr1
    go_wp2_with fail
    refine ((sz_all _).2 p.body ab cb r _ (Nat.le_refl _) hr0 hr2 hlb ((hB.gr0 (hg0 _)).gr0 hg1)).mono ?_
    rintro e' w2 ⟨r2, rfl, hr3, hg2⟩
    rcases hr3 with ⟨hr4, hr5⟩ | ⟨hr4, hr5⟩
    · have HR2 := Lib.hid hr5
      clear hr5
      go_wp2_with fail
      go_ret
      exact ⟨r2, rfl, .inl ⟨hr4, by have := HR.out; have := HR2.out; simp only [Pr.size]; omega⟩, ((hg0 _).trans0 hg1).trans0 hg2⟩
    · subst hr4
      go_wp2_with fail
      go_ret
      exact ⟨-1, rfl, .inr ⟨rfl, by have := HR.out; simp only [Pr.size]; omega⟩, ((hg0 _).trans0 hg1).trans0 hg2⟩
  · subst hr0
    go_wp2_with fail
    go_ret
    exact ⟨-1, rfl, .inr ⟨rfl, by simp only [Pr.size]; omega⟩, (hg0 _).trans0 hg1⟩
end Go.Proofs.Ytgphnpljjilfjaa

namespace Go.Proofs.Ytgphnpljjilfjaa

open Go.RowKit

/-- Nothing that is new is frozen. -/
def Unf (w w' : World) : Prop := ∀ a : Addr, w.heap.size ≤ a.block → w'.frozen? a = false
theorem Unf.refl (w : World) : Unf w w := by
  intro a h
  unfold World.frozen?
  rw [Array.getElem?_eq_none h]
theorem Unf.alloc {w w' : World} (h : Unf w w') (c : Array Value) (t : TypeId) : Unf w (w'.alloc (.cells c t)) := fun a ha => (frozen?_alloc_cells _ _ _ _).trans (h a ha)
theorem Unf.set {w w' : World} (h : Unf w w') (p : Addr) (v : Value) : Unf w (w'.setCell p v) := fun a ha => (World.frozen?_setCell _ _ _ _).trans (h a ha)
theorem Unf.trans {w a b : World} (h : Unf w a) (hg : Gr a b none) (h2 : Unf a b) : Unf w b := by
  intro p hp
  by_cases hlt : p.block < a.heap.size
  · rw [hg.frozen hlt (by simp)]; exact h p hp
  · exact h2 p (by omega)

theorem row_set {w : World} {g k : Nat} {arr : Array Value} {t : TypeId} {f : Nat × Nat} (v : Value) (h : w.heap[g]? = some (.cells arr t f)) : (w.setCell ⟨g, k, none⟩ v).heap[g]? = some (.cells (arr.setIfInBounds k v) t f) := by
  have hlt := lt_of_block h
  have h' : w.heap[g] = .cells arr t f := by simpa [Array.getElem?_eq_getElem hlt] using h
  show (w.heap.modify g _)[g]? = _
  rw [Array.getElem?_eq_getElem (by simpa using hlt), Array.getElem_modify_self, h']
  rfl

theorem Iinfo : (Try.prog.info? 3).map (fun i => (i.zero, i.size, i.bytes)) = some (some (.int .i64 0), 1, 8) := by kernel_rfl

/-- A row of ints of the call's own, of which the first k are those of l. -/
def Filling (w : World) (g : Nat) (l : List Int) (k : Nat) : Prop :=
  ∃ arr : Array Value, w.heap[g]? = some (.cells arr 3 (0, 0)) ∧ arr.size = l.length ∧ ∀ j (h : j < l.length), j < k → arr[j]? = some (.int .i64 l[j])
theorem Filling.cell {w : World} {g k : Nat} {l : List Int} (h : Filling w g l k) {j : Nat} (hj : j < l.length) : ∃ v, w.cell? ⟨g, j, none⟩ = some v := by
  obtain ⟨arr, h1, h2, _⟩ := h
  exact ⟨arr[j]'(by omega), by rw [cell_of_row w g j _ _ _ h1]; simp [h2, hj]⟩
theorem Filling.free {w : World} {g k : Nat} {l : List Int} (h : Filling w g l k) (j : Nat) : w.frozen? ⟨g, j, none⟩ = false := by
  obtain ⟨arr, h1, _⟩ := h
  simp [World.frozen?, h1]
theorem Filling.step {w : World} {g k : Nat} {l : List Int} (h : Filling w g l k) (hk : k < l.length) : Filling (w.setCell ⟨g, k, none⟩ (.int .i64 l[k])) g l (k + 1) := by
  obtain ⟨arr, h1, h2, h3⟩ := h
  refine ⟨_, row_set _ h1, by simpa using h2, fun j hj hjk => ?_⟩
  by_cases e : j = k
  · subst e; simp [h2, hj]
  · rw [Array.getElem?_setIfInBounds_ne (by omega)]; exact h3 j hj (by omega)
theorem Filling.done {w : World} {g : Nat} {l : List Int} (h : Filling w g l l.length) {B : Nat} (hB : B ≤ g) : InAt w (fun b _ => B ≤ b) l (some ⟨g, 0, none⟩) := by
  obtain ⟨arr, h1, h2, h3⟩ := h
  exact InAt.of fun i hi => ⟨hB, by rw [cell_of_row w g (0 + i) _ _ _ h1, Nat.zero_add]; exact h3 i hi hi⟩

/-- A copy of ints. -/
def Copied (l : List Int) (w : World) (e : Ending) (w' : World) : Prop :=
  ∃ (g : Nat), e = .returned (.slice (some ⟨g, 0, none⟩) l.length l.length) ∧ InAt w' (fun b _ => w.heap.size ≤ b) l (some ⟨g, 0, none⟩) ∧ Gr w w' none ∧ Unf w w'
set_option maxHeartbeats 1000000 in
theorem toIntS_any (l : List Int) (a : Option Addr) (c : Nat) (w : World) (h : InAt w Any l a) (hl : l.length ≤ 1048576) :
    Calls Try.prog 51 #[.slice a l.length c] w (Copied l w) := by
  have hmk := fun w : World => run_make_row' (P := Try.prog) 22 3 (.int .i64 0) 8 Try.underlying22 Iinfo rfl .i64 .i64 l.length (by omega) (by omega) w
  go_enter Try.func51, Try.ntmps51
  go_wp2
  have hF0 : Filling (w.alloc (.cells (madeCells #[.int .i64 0] l.length) 3)) w.heap.size l 0 := ⟨_, heap1_0 _ _, by simp [madeCells], by omega⟩
  have hU0 : Unf w (w.alloc (.cells (madeCells #[.int .i64 0] l.length) 3)) := (Unf.refl w).alloc _ _
  have hG0 : Gr w (w.alloc (.cells (madeCells #[.int .i64 0] l.length) 3)) none := (Gr.refl _ _).alloc _
  go_loopw [4] (fun i wr => ∃ k : Nat, k ≤ l.length ∧ i = .int .i64 k ∧ Filling wr w.heap.size l k ∧ Gr w wr none ∧ Unf w wr) (fun i _ => l.length - (intOf i).toNat)
  case atStart => exact ⟨0, Nat.zero_le _, rfl, hF0, hG0, hU0⟩
  case round =>
    obtain ⟨k, hk, rfl, hF, hG, hU⟩ := hrel
    clear hmk hF0 hU0 hG0
    by_cases hlt : k < l.length
    · obtain ⟨b, off, rfl, _, hc⟩ := (h.gr0 hG).at hlt
      obtain ⟨v, hv⟩ := hF.cell hlt
      have hf := hF.free k
      go_wp2_with fail
      go_roundw
      case rel => exact ⟨k + 1, by omega, by go_num, hF.step hlt, hG.setNew (Nat.le_refl _) _, hU.set _ _⟩
      case measure => simp [intOf]; omega
    · obtain rfl : k = l.length := by omega
      go_wp2
      go_ret
      exact ⟨_, rfl, hF.done (Nat.le_refl _), hG, hU⟩
end Go.Proofs.Ytgphnpljjilfjaa

namespace Go.Proofs.Ytgphnpljjilfjaa

open Go.RowKit

/-- Where copies lie. -/
def Fresh (B : Nat) (b o : Nat) : Prop := B ≤ b ∧ o % 6 = 0
/-- A copied list of statements. -/
def CopiedS (l : List St) (w : World) (e : Ending) (w' : World) : Prop :=
  ∃ (g : Nat), e = .returned (.slice (some ⟨g, 0, none⟩) l.length l.length) ∧ SlAt w' (Fresh w.heap.size) l (some ⟨g, 0, none⟩) ∧ Gr w w' none ∧ Unf w w'
/-- A copied statement: its lists are new. -/
def CopiedT (s : St) (w : World) (e : Ending) (w' : World) : Prop :=
  ∃ (g1 g2 : Nat), e = .returned (.agg #[.int .i64 s.op, .int .i64 s.x, .int .i64 s.y, .int .i64 s.n, .slice (some ⟨g1, 0, none⟩) s.thn.length s.thn.length, .slice (some ⟨g2, 0, none⟩) s.els.length s.els.length]) ∧
    SlAt w' (Fresh w.heap.size) s.thn (some ⟨g1, 0, none⟩) ∧ SlAt w' (Fresh w.heap.size) s.els (some ⟨g2, 0, none⟩) ∧ Gr w w' none ∧ Unf w w'
def ToC (n : Nat) : Prop := ∀ (s : St) (at' ae : Option Addr) (ct ce : Nat) (w : World), s.inner + 1 ≤ n → n ≤ 1048576 →
  SlAt w Any s.thn at' → SlAt w Any s.els ae →
  Calls Try.prog 79 #[.agg #[.int .i64 s.op, .int .i64 s.x, .int .i64 s.y, .int .i64 s.n, .slice at' s.thn.length ct, .slice ae s.els.length ce]] w (CopiedT s w)
def ToSC (n : Nat) : Prop := ∀ (l : List St) (a : Option Addr) (c : Nat) (w : World), St.count l ≤ n → n ≤ 1048576 → SlAt w Any l a →
  Calls Try.prog 52 #[.slice a l.length c] w (CopiedS l w)

/-- Six cells are stored. -/
def set6 (w : World) (g o : Nat) (v0 v1 v2 v3 v4 v5 : Value) : World :=
  (((((w.setCell ⟨g, o, none⟩ v0).setCell ⟨g, o + 1, none⟩ v1).setCell ⟨g, o + 2, none⟩ v2).setCell ⟨g, o + 3, none⟩ v3).setCell ⟨g, o + 4, none⟩ v4).setCell ⟨g, o + 5, none⟩ v5

set_option maxRecDepth 100000 in
set_option maxHeartbeats 2000000 in
theorem to_step (n : Nat) (hA : ToSC n) : ToC (n + 1) := by
  intro s at' ae ct ce w hn hn2 hT hE
  obtain ⟨op, x, y, nn, t, e⟩ := s
  simp only [St.thn, St.els, St.op, St.x, St.y, St.n, St.inner] at *
  have HA := Lib.hid hA
  clear hA
  have hg0 : ∀ a b c, Gr w (((w.alloc a).alloc b).alloc c) none := fun a b c => (((Gr.refl _ _).alloc _).alloc _).alloc _
  go_enter Try.func79, Try.ntmps79
  go_wp2_with fail
  refine (HA.out t at' ct _ (by omega) (by omega) (hT.gr0 (hg0 _ _ _))).mono ?_
  rintro e' w1 ⟨g1, rfl, hs1, hg1, hu1⟩
  have hz1 : w.heap.size + 1 + 1 + 1 ≤ w1.heap.size := by have := hg1.size; simpa using this
  have hb2 : w1.heap[w.heap.size + 1 + 1]? = some (.cells #[.int .i64 op, .int .i64 x, .int .i64 y, .int .i64 nn, .slice none 0 0, .slice none 0 0] 91 (0, 0)) := (hg1.block _ (by simp) (by simp)).trans (heap3_2 _ _ _ _)
  have hb1 : w1.heap[w.heap.size + 1]? = some (.cells #[.int .i64 0, .int .i64 0, .int .i64 0, .int .i64 0, .slice none 0 0, .slice none 0 0] 91 (0, 0)) := (hg1.block _ (by simp) (by simp)).trans (heap3_1 _ _ _ _)
  have hb0 : w1.heap[w.heap.size]? = some (.cells #[.int .i64 op, .int .i64 x, .int .i64 y, .int .i64 nn, .slice at' t.length ct, .slice ae e.length ce] 88 (0, 0)) := (hg1.block _ (by simp; omega) (by simp)).trans (heap3_0 _ _ _ _)
  have p4 : w1.cell? ⟨w.heap.size + 1 + 1, 4, none⟩ = some (.slice none 0 0) := cell_of_row _ _ 4 _ _ _ hb2
  have f2 : ∀ o, w1.frozen? ⟨w.heap.size + 1 + 1, o, none⟩ = false := fun o => by simp [World.frozen?, hb2]
  have p5 : w1.cell? ⟨w.heap.size, 5, none⟩ = some (.slice ae e.length ce) := cell_of_row _ _ 5 _ _ _ hb0
  have HB2 := Lib.hid hb2
  have HB1 := Lib.hid hb1
  have HG1 := Lib.hid ((hg0 _ _ _).trans0 hg1)
  have HU1 := Lib.hid ((((Unf.refl w).alloc _ _).alloc _ _).alloc _ _ |>.trans hg1 hu1)
  have HS1 := Lib.hid hs1
  clear hb2 hb1 hb0 hg1 hu1 hs1
  have hg2' : ∀ v, Gr w1 (w1.setCell ⟨w.heap.size + 1 + 1, 4, none⟩ v) (some (w.heap.size + 1 + 1)) := fun v => (Gr.refl _ _).setOwn rfl _
  have hE1 := (hE.old (n := w.heap.size + 1 + 1) (by omega)).gr0 HG1.out
  go_wp2_with fail
  refine (HA.out e ae ce _ (by omega) (by omega) ((hE1.gr (hg2' _) (off_ne _)).any)).mono ?_
  rintro e' w2 ⟨g2, rfl, hs2, hg2, hu2⟩
  have hszs : (w1.setCell ⟨w.heap.size + 1 + 1, 4, none⟩ (.slice (some ⟨g1, 0, none⟩) t.length t.length)).heap.size = w1.heap.size := by simp [World.setCell]
  have hz2 : w1.heap.size ≤ w2.heap.size := by have := hg2.size; omega
  have hb2 : w2.heap[w.heap.size + 1 + 1]? = some (.cells #[.int .i64 op, .int .i64 x, .int .i64 y, .int .i64 nn, .slice (some ⟨g1, 0, none⟩) t.length t.length, .slice none 0 0] 91 (0, 0)) := (hg2.block _ (by omega) (by simp)).trans (row_set _ HB2.out)
  have hb1 : w2.heap[w.heap.size + 1]? = some (.cells #[.int .i64 0, .int .i64 0, .int .i64 0, .int .i64 0, .slice none 0 0, .slice none 0 0] 91 (0, 0)) := (hg2.block _ (by omega) (by simp)).trans ((Below.heap_setCell _ _ _ _ (by simp)).trans HB1.out)
  have HG2 := Lib.hid ((HG1.out.setNew (p := ⟨w.heap.size + 1 + 1, 4, none⟩) (by simp; omega) _).trans0 hg2)
  have HU2 := Lib.hid ((HU1.out.set _ _).trans hg2 hu2)
  have HT2 : SlAt w2 (Fresh (w.heap.size + 1 + 1 + 1)) t (some ⟨g1, 0, none⟩) := ((HS1.out.gr (hg2' _) (fun b o hd e => by injection e with e; have := hd.1; simp at this; omega)).gr0 hg2).mono (fun b o hd => ⟨by have := hd.1; simp at this; omega, hd.2⟩) (fun _ _ _ _ _ _ h => h)
  have HE2 : SlAt w2 (Fresh (w.heap.size + 1 + 1 + 1)) e (some ⟨g2, 0, none⟩) := hs2.mono (fun b o hd => ⟨by have := hd.1; omega, hd.2⟩) (fun _ _ _ _ _ _ h => h)
  have c20 := cell_of_row _ _ 0 _ _ _ hb2
  have c21 := cell_of_row _ _ 1 _ _ _ hb2
  have c22 := cell_of_row _ _ 2 _ _ _ hb2
  have c23 := cell_of_row _ _ 3 _ _ _ hb2
  have c24 := cell_of_row _ _ 4 _ _ _ hb2
  have c25 := cell_of_row _ _ 5 _ _ _ hb2
  have c10 := cell_of_row _ _ 0 _ _ _ hb1
  have c11 := cell_of_row _ _ 1 _ _ _ hb1
  have c12 := cell_of_row _ _ 2 _ _ _ hb1
  have c13 := cell_of_row _ _ 3 _ _ _ hb1
  have c14 := cell_of_row _ _ 4 _ _ _ hb1
  have c15 := cell_of_row _ _ 5 _ _ _ hb1
  have f22 : ∀ o, w2.frozen? ⟨w.heap.size + 1 + 1, o, none⟩ = false := fun o => by simp [World.frozen?, hb2]
  have f21 : ∀ o, w2.frozen? ⟨w.heap.size + 1, o, none⟩ = false := fun o => by simp [World.frozen?, hb1]
  clear hb1 hb2 hs2 hg2 hu2 hszs p4 f2 p5 HS1 hg2' hE1 HB1 HB2
  simp at c20 c21 c22 c23 c24 c25 c10 c11 c12 c13 c14 c15
  go_wp2_with fail
  refine bodyPost_ret (v := .agg #[.int .i64 op, .int .i64 x, .int .i64 y, .int .i64 nn, .slice (some ⟨g1, 0, none⟩) t.length t.length, .slice (some ⟨g2, 0, none⟩) e.length e.length]) ?_ rfl ?_
  · simp [results, Try.results79, go_sem, c10, c11, c12, c13, c14, c15]
  · have st : ∀ (u : World) (l : List St) (a : Option Addr) (k o : Nat) (v : Value), k ≤ w.heap.size + 1 + 1 → SlAt u (Fresh (w.heap.size + 1 + 1 + 1)) l a → SlAt (u.setCell ⟨k, o, none⟩ v) (Fresh (w.heap.size + 1 + 1 + 1)) l a :=
      fun u l a k o v hk h => h.gr (own_set u k o v) (fun b o hd e => by injection e with e; have := hd.1; omega)
    have fin : ∀ (u : World) (l : List St) (a : Option Addr), SlAt u (Fresh (w.heap.size + 1 + 1 + 1)) l a → SlAt u (Fresh w.heap.size) l a :=
      fun u l a h => h.mono (fun b o hd => ⟨by have := hd.1; omega, hd.2⟩) (fun _ _ _ _ _ _ h => h)
    refine ⟨g1, g2, rfl, fin _ _ _ ?_, fin _ _ _ ?_, ?_, ?_⟩
    · exact st _ _ _ _ _ _ (by omega) (st _ _ _ _ _ _ (by omega) (st _ _ _ _ _ _ (by omega) (st _ _ _ _ _ _ (by omega) (st _ _ _ _ _ _ (by omega) (st _ _ _ _ _ _ (by omega) (st _ _ _ _ _ _ (by omega) HT2))))))
    · exact st _ _ _ _ _ _ (by omega) (st _ _ _ _ _ _ (by omega) (st _ _ _ _ _ _ (by omega) (st _ _ _ _ _ _ (by omega) (st _ _ _ _ _ _ (by omega) (st _ _ _ _ _ _ (by omega) (st _ _ _ _ _ _ (by omega) HE2))))))
    · exact ((((((HG2.out.setNew (by simp; omega) _).setNew (by simp) _).setNew (by simp) _).setNew (by simp) _).setNew (by simp) _).setNew (by simp) _).setNew (by simp) _
    · exact ((((((HU2.out.set _ _).set _ _).set _ _).set _ _).set _ _).set _ _).set _ _

theorem Sinfo : (Try.prog.info? 91).map (fun i => (i.zero, i.size, i.bytes)) = some (some (.agg #[.int .i64 0, .int .i64 0, .int .i64 0, .int .i64 0, .slice none 0 0, .slice none 0 0]), 6, 80) := by kernel_rfl
def zero6 : Array Value := #[.int .i64 0, .int .i64 0, .int .i64 0, .int .i64 0, .slice none 0 0, .slice none 0 0]
theorem run_make_stmts (n : Nat) (hn : n ≤ 1048576) (w : World) :
    (Instr.makeSlice 28 (.int .i64 (n : Int)) (.int .i64 (n : Int))).run Try.prog w = .ok (.slice (some ⟨w.heap.size, 0, none⟩) n n) (w.alloc (.cells (madeCells zero6 (n * 6)) 91)) := by
  obtain ⟨i0, hi, hz0, hz1, hz2⟩ := info_parts Sinfo
  have h := run_make (P := Try.prog) w 28 91 i0 _ Try.underlying28 hi hz0 .i64 .i64 n n (by omega) (Int.le_refl _) (by rw [hz2]; omega) (by omega)
  rw [hz1] at h
  simp only [Int.toNat_natCast] at h
  exact h
/-- A row of statements of the call's own, of which the first k are those of l. -/
def FillS (B : Nat) (w : World) (g : Nat) (l : List St) (k : Nat) : Prop :=
  (∃ arr : Array Value, w.heap[g]? = some (.cells arr 91 (0, 0)) ∧ arr.size = l.length * 6) ∧ ∀ j (h : j < l.length), j < k → StAt w (fun b o => B ≤ b ∧ o % 6 = 0 ∧ (b = g → o < k * 6)) l[j] g (j * 6)
theorem FillS.cell {B : Nat} {w : World} {g k : Nat} {l : List St} (h : FillS B w g l k) {o : Nat} (ho : o < l.length * 6) : ∃ v, w.cell? ⟨g, o, none⟩ = some v := by
  obtain ⟨⟨arr, h1, h2⟩, _⟩ := h
  exact ⟨arr[o]'(by omega), by rw [cell_of_row w g o _ _ _ h1]; simp [h2, ho]⟩
theorem FillS.free {B : Nat} {w : World} {g k : Nat} {l : List St} (h : FillS B w g l k) (o : Nat) : w.frozen? ⟨g, o, none⟩ = false := by
  obtain ⟨⟨arr, h1, _⟩, _⟩ := h
  simp [World.frozen?, h1]
theorem FillS.lt {B : Nat} {w : World} {g k : Nat} {l : List St} (h : FillS B w g l k) : g < w.heap.size := by
  obtain ⟨⟨arr, h1, _⟩, _⟩ := h
  exact lt_of_block h1
theorem FillS.gr {B : Nat} {w w' : World} {g k : Nat} {l : List St} (h : FillS B w g l k) (hg : Gr w w' none) : FillS B w' g l k := by
  have hlt := h.lt
  obtain ⟨⟨arr, h1, h2⟩, h3⟩ := h
  exact ⟨⟨arr, (hg.block g hlt (by simp)).trans h1, h2⟩, fun j hj hk => StAt.mono (fun _ _ h => h) (fun b o v hd i hi hc => hg.cell hc (by simp)) _ _ _ (h3 j hj hk)⟩
theorem set_heap6 {w : World} {g o : Nat} {arr : Array Value} {t : TypeId} {v0 v1 v2 v3 v4 v5 : Value} (h : w.heap[g]? = some (.cells arr t (0, 0))) :
    (set6 w g o v0 v1 v2 v3 v4 v5).heap[g]? = some (.cells ((((((arr.setIfInBounds o v0).setIfInBounds (o + 1) v1).setIfInBounds (o + 2) v2).setIfInBounds (o + 3) v3).setIfInBounds (o + 4) v4).setIfInBounds (o + 5) v5) t (0, 0)) :=
  row_set _ (row_set _ (row_set _ (row_set _ (row_set _ (row_set _ h)))))
theorem set_gr6 (w : World) (g o : Nat) (v0 v1 v2 v3 v4 v5 : Value) : Gr w (set6 w g o v0 v1 v2 v3 v4 v5) (some g) :=
  ((((((Gr.refl w (some g)).setOwn rfl _).setOwn rfl _).setOwn rfl _).setOwn rfl _).setOwn rfl _).setOwn rfl _
theorem FillS.step {B : Nat} {w : World} {g k : Nat} {l : List St} (h : FillS B w g l k) (hB : B ≤ g) (hk : k < l.length) {s : St} (hs : l[k] = s) {G g1 g2 c1 c2 : Nat} (hG : g < G) (_hGB : B ≤ G) (h1 : SlAt w (Fresh G) s.thn (some ⟨g1, 0, none⟩)) (h2 : SlAt w (Fresh G) s.els (some ⟨g2, 0, none⟩))
    (ht : s.thn.length ≤ maxLen) (he : s.els.length ≤ maxLen) :
    FillS B (set6 w g (k * 6) (.int .i64 s.op) (.int .i64 s.x) (.int .i64 s.y) (.int .i64 s.n) (.slice (some ⟨g1, 0, none⟩) s.thn.length c1) (.slice (some ⟨g2, 0, none⟩) s.els.length c2)) g l (k + 1) := by
  have hlt := h.lt
  obtain ⟨⟨arr, a1, a2⟩, h3⟩ := h
  have hh := set_heap6 (o := k * 6) (v0 := .int .i64 s.op) (v1 := .int .i64 s.x) (v2 := .int .i64 s.y) (v3 := .int .i64 s.n) (v4 := .slice (some ⟨g1, 0, none⟩) s.thn.length c1) (v5 := .slice (some ⟨g2, 0, none⟩) s.els.length c2) a1
  have hgr := set_gr6 w g (k * 6) (.int .i64 s.op) (.int .i64 s.x) (.int .i64 s.y) (.int .i64 s.n) (.slice (some ⟨g1, 0, none⟩) s.thn.length c1) (.slice (some ⟨g2, 0, none⟩) s.els.length c2)
  generalize set6 w g (k * 6) (.int .i64 s.op) (.int .i64 s.x) (.int .i64 s.y) (.int .i64 s.n) (.slice (some ⟨g1, 0, none⟩) s.thn.length c1) (.slice (some ⟨g2, 0, none⟩) s.els.length c2) = w' at *
  refine ⟨⟨_, hh, by simpa using a2⟩, fun j hj hjk => ?_⟩
  by_cases e : j = k
  · subst e
    rw [hs]
    have hsub : ∀ (m : List St) (a : Option Addr), SlAt w (Fresh G) m a → SlAt w' (fun b o => B ≤ b ∧ o % 6 = 0 ∧ (b = g → o < (j + 1) * 6)) m a := fun m a hm =>
      (hm.gr hgr (fun b o hd e => by injection e with e; have := hd.1; omega)).mono (fun b o hd => ⟨by have := hd.1; omega, hd.2, fun e => by have := hd.1; omega⟩) (fun _ _ _ _ _ _ h => h)
    refine StAt.into ⟨⟨hB, by omega, fun _ => by omega⟩, ht, he, some ⟨g1, 0, none⟩, c1, some ⟨g2, 0, none⟩, c2, ?_, ?_, ?_, ?_, ?_, ?_, hsub _ _ h1, hsub _ _ h2⟩
    · rw [cell_of_row _ _ _ _ _ _ hh]; simp [Array.getElem?_setIfInBounds, a2]; omega
    · rw [cell_of_row _ _ _ _ _ _ hh]; simp [Array.getElem?_setIfInBounds, a2]; omega
    · rw [cell_of_row _ _ _ _ _ _ hh]; simp [Array.getElem?_setIfInBounds, a2]; omega
    · rw [cell_of_row _ _ _ _ _ _ hh]; simp [Array.getElem?_setIfInBounds, a2]; omega
    · rw [cell_of_row _ _ _ _ _ _ hh]; simp [Array.getElem?_setIfInBounds, a2]; omega
    · rw [cell_of_row _ _ _ _ _ _ hh]; simp [Array.getElem?_setIfInBounds, a2]; omega
  · refine StAt.mono (fun b o hd => ⟨hd.1, hd.2.1, fun e => by have := hd.2.2 e; omega⟩) (fun b o v hd i hi hc => ?_) _ _ _ (h3 j hj (by omega))
    by_cases eb : b = g
    · subst eb
      have hlt2 := hd.2.2 rfl
      have hm := hd.2.1
      rw [cell_of_row _ _ _ _ _ _ a1] at hc
      rw [cell_of_row _ _ _ _ _ _ hh]
      simp only [Array.getElem?_setIfInBounds]
      rw [if_neg (by omega), if_neg (by omega), if_neg (by omega), if_neg (by omega), if_neg (by omega), if_neg (by omega)]
      exact hc
    · exact hgr.cell hc (fun e => eb (by injection e with e; exact e.symm))
theorem FillS.done {B : Nat} {w : World} {g : Nat} {l : List St} (h : FillS B w g l l.length) : SlAt w (Fresh B) l (some ⟨g, 0, none⟩) :=
  SlAt.of fun i hi => by
    have := StAt.mono (D' := Fresh B) (fun b o hd => ⟨hd.1, hd.2.1⟩) (fun _ _ _ _ _ _ h => h) _ _ _ (h.2 i hi hi)
    simpa using this

set_option maxRecDepth 100000 in
set_option maxHeartbeats 2000000 in
theorem tos_step (n : Nat) (hS : ToC n) : ToSC n := by
  intro l a c w hn hn2 hL
  have HS := Lib.hid hS
  clear hS
  have hlc := length_count l
  have hll : l.length ≤ 1048576 := by omega
  have hmk := fun w : World => run_make_stmts l.length hll w
  have hF0 : FillS w.heap.size (w.alloc (.cells (madeCells zero6 (l.length * 6)) 91)) w.heap.size l 0 := ⟨⟨_, heap1_0 _ _, by simp [madeCells]⟩, by omega⟩
  have hU0 : Unf w (w.alloc (.cells (madeCells zero6 (l.length * 6)) 91)) := (Unf.refl w).alloc _ _
  have hG0 : Gr w (w.alloc (.cells (madeCells zero6 (l.length * 6)) 91)) none := (Gr.refl _ _).alloc _
  go_enter Try.func52, Try.ntmps52
  go_wp2
  go_loopw [4] (fun i wr => ∃ k : Nat, k ≤ l.length ∧ i = .int .i64 k ∧ FillS w.heap.size wr w.heap.size l k ∧ Gr w wr none ∧ Unf w wr) (fun i _ => l.length - (intOf i).toNat)
  case atStart => exact ⟨0, Nat.zero_le _, rfl, hF0, hG0, hU0⟩
  case round =>
    obtain ⟨k, hk, rfl, hF, hG, hU⟩ := hrel
    clear hmk hF0 hU0 hG0
    by_cases hlt : k < l.length
    · obtain ⟨b, off, rfl, hs⟩ := (hL.gr0 hG).at hlt
      have hin := count_get hlt
      obtain ⟨s, es⟩ : ∃ s, l[k] = s := ⟨_, rfl⟩
      rw [es] at hs hin
      have ES := Lib.hid es
      clear es
      obtain ⟨_, ht, he, at', ct, ae, ce, c0, c1, c2, c3, c4, c5, r4, r5⟩ := hs.out
      go_wp2_with fail
      refine (HS.out s at' ae ct ce wr (by omega) (by omega) r4 r5).mono ?_
      rintro e w1 ⟨g1, g2, rfl, h1, h2, hg1, hu1⟩
      have hF1 := hF.gr hg1
      have hlt2 := hF.lt
      obtain ⟨v0, d0⟩ := hF1.cell (o := k * 6) (by omega)
      obtain ⟨v1, d1⟩ := hF1.cell (o := k * 6 + 1) (by omega)
      obtain ⟨v2, d2⟩ := hF1.cell (o := k * 6 + 2) (by omega)
      obtain ⟨v3, d3⟩ := hF1.cell (o := k * 6 + 3) (by omega)
      obtain ⟨v4, d4⟩ := hF1.cell (o := k * 6 + 4) (by omega)
      obtain ⟨v5, d5⟩ := hF1.cell (o := k * 6 + 5) (by omega)
      have hf := hF1.free
      clear c0 c1 c2 c3 c4 c5 hs r4 r5
      go_wp2_with fail
      go_roundw
      case rel => exact ⟨k + 1, by omega, by go_num, hF1.step (Nat.le_refl _) hlt ES.out hlt2 (by omega) h1 h2 ht he, (hG.trans0 hg1).trans (set_gr6 _ _ _ _ _ _ _ _ _) (fun r hr => .inr (by injection hr with hr; omega)), ((((((hU.trans hg1 hu1).set _ _).set _ _).set _ _).set _ _).set _ _).set _ _⟩
      case measure => simp [intOf]; omega
    · obtain rfl : k = l.length := by omega
      go_wp2
      go_ret
      exact ⟨_, rfl, hF.done, hG, hU⟩
theorem to_all : ∀ n, ToC n ∧ ToSC n
  | 0 => ⟨fun s _ _ _ _ _ h => absurd h (by omega), tos_step 0 (fun s _ _ _ _ _ h => absurd h (by omega))⟩
  | n + 1 => ⟨to_step n (to_all n).2, tos_step (n + 1) (to_step n (to_all n).2)⟩
end Go.Proofs.Ytgphnpljjilfjaa

namespace Go.Proofs.Ytgphnpljjilfjaa

open Go.RowKit

/-- A copied program. -/
def CopiedP (p : Pr) (w : World) (e : Ending) (w' : World) : Prop :=
  ∃ (g1 g2 : Nat), e = .returned (.agg #[.slice (some ⟨g1, 0, none⟩) p.types.length p.types.length, .slice (some ⟨g2, 0, none⟩) p.body.length p.body.length]) ∧
    InAt w' (fun b _ => w.heap.size ≤ b) p.types (some ⟨g1, 0, none⟩) ∧ SlAt w' (Fresh w.heap.size) p.body (some ⟨g2, 0, none⟩) ∧ Gr w w' none ∧ Unf w w'

set_option maxRecDepth 100000 in
set_option maxHeartbeats 2000000 in
theorem toProgram_any (p : Pr) (at' ab : Option Addr) (ct cb : Nat) (w : World) (hT : InAt w Any p.types at') (hB : SlAt w Any p.body ab) (hs : p.size ≤ 1048576) :
    Calls Try.prog 15 #[.agg #[.slice at' p.types.length ct, .slice ab p.body.length cb]] w (CopiedP p w) := by
  obtain ⟨t, e⟩ := p
  simp only [Pr.size] at *
  have hg0 : ∀ a b c, Gr w (((w.alloc a).alloc b).alloc c) none := fun a b c => (((Gr.refl _ _).alloc _).alloc _).alloc _
  go_enter Try.func15, Try.ntmps15
  go_wp2_with fail
  refine (toIntS_any t at' ct _ (hT.gr0 (hg0 _ _ _)) (by omega)).mono ?_
  rintro e' w1 ⟨g1, rfl, hs1, hg1, hu1⟩
  have hz1 : w.heap.size + 1 + 1 + 1 ≤ w1.heap.size := by have := hg1.size; simpa using this
  have hb2 : w1.heap[w.heap.size + 1 + 1]? = some (.cells #[.slice none 0 0, .slice none 0 0] 30 (0, 0)) := (hg1.block _ (by simp) (by simp)).trans (heap3_2 _ _ _ _)
  have hb1 : w1.heap[w.heap.size + 1]? = some (.cells #[.slice none 0 0, .slice none 0 0] 30 (0, 0)) := (hg1.block _ (by simp) (by simp)).trans (heap3_1 _ _ _ _)
  have hb0 : w1.heap[w.heap.size]? = some (.cells #[.slice at' t.length ct, .slice ab e.length cb] 25 (0, 0)) := (hg1.block _ (by simp; omega) (by simp)).trans (heap3_0 _ _ _ _)
  have p4 : w1.cell? ⟨w.heap.size + 1 + 1, 0, none⟩ = some (.slice none 0 0) := cell_of_row _ _ 0 _ _ _ hb2
  have f2 : ∀ o, w1.frozen? ⟨w.heap.size + 1 + 1, o, none⟩ = false := fun o => by simp [World.frozen?, hb2]
  have p5 : w1.cell? ⟨w.heap.size, 1, none⟩ = some (.slice ab e.length cb) := cell_of_row _ _ 1 _ _ _ hb0
  have HB2 := Lib.hid hb2
  have HB1 := Lib.hid hb1
  have HG1 := Lib.hid ((hg0 _ _ _).trans0 hg1)
  have HU1 := Lib.hid ((((Unf.refl w).alloc _ _).alloc _ _).alloc _ _ |>.trans hg1 hu1)
  have HS1 := Lib.hid hs1
  clear hb2 hb1 hb0 hg1 hu1 hs1
  have hg2' : ∀ v, Gr w1 (w1.setCell ⟨w.heap.size + 1 + 1, 0, none⟩ v) (some (w.heap.size + 1 + 1)) := fun v => (Gr.refl _ _).setOwn rfl _
  have hE1 := (hB.old (n := w.heap.size + 1 + 1) (by omega)).gr0 HG1.out
  go_wp2_with fail
  refine ((to_all _).2 e ab cb _ (Nat.le_refl _) (by omega) ((hE1.gr (hg2' _) (off_ne _)).any)).mono ?_
  rintro e' w2 ⟨g2, rfl, hs2, hg2, hu2⟩
  have hszs : (w1.setCell ⟨w.heap.size + 1 + 1, 0, none⟩ (.slice (some ⟨g1, 0, none⟩) t.length t.length)).heap.size = w1.heap.size := by simp [World.setCell]
  have hz2 : w1.heap.size ≤ w2.heap.size := by have := hg2.size; omega
  have hb2 : w2.heap[w.heap.size + 1 + 1]? = some (.cells #[.slice (some ⟨g1, 0, none⟩) t.length t.length, .slice none 0 0] 30 (0, 0)) := (hg2.block _ (by omega) (by simp)).trans (row_set _ HB2.out)
  have hb1 : w2.heap[w.heap.size + 1]? = some (.cells #[.slice none 0 0, .slice none 0 0] 30 (0, 0)) := (hg2.block _ (by omega) (by simp)).trans ((Below.heap_setCell _ _ _ _ (by simp)).trans HB1.out)
  have HG2 := Lib.hid ((HG1.out.setNew (p := ⟨w.heap.size + 1 + 1, 0, none⟩) (by simp; omega) _).trans0 hg2)
  have HU2 := Lib.hid ((HU1.out.set _ _).trans hg2 hu2)
  have HT2 : InAt w2 (fun b _ => w.heap.size + 1 + 1 + 1 ≤ b) t (some ⟨g1, 0, none⟩) := ((HS1.out.gr (hg2' _) (fun b o hd e => by injection e with e; simp at hd; omega)).gr0 hg2).mono (fun b o hd => by simp at hd; omega) (fun _ _ _ _ h => h)
  have HE2 : SlAt w2 (Fresh (w.heap.size + 1 + 1 + 1)) e (some ⟨g2, 0, none⟩) := hs2.mono (fun b o hd => ⟨by have := hd.1; omega, hd.2⟩) (fun _ _ _ _ _ _ h => h)
  have c20 := cell_of_row _ _ 0 _ _ _ hb2
  have c21 := cell_of_row _ _ 1 _ _ _ hb2
  have c10 := cell_of_row _ _ 0 _ _ _ hb1
  have c11 := cell_of_row _ _ 1 _ _ _ hb1
  have f22 : ∀ o, w2.frozen? ⟨w.heap.size + 1 + 1, o, none⟩ = false := fun o => by simp [World.frozen?, hb2]
  have f21 : ∀ o, w2.frozen? ⟨w.heap.size + 1, o, none⟩ = false := fun o => by simp [World.frozen?, hb1]
  clear hb1 hb2 hs2 hg2 hu2 hszs p4 f2 p5 HS1 hg2' hE1 HB1 HB2
  simp at c20 c21 c10 c11
  go_wp2_with fail
  refine bodyPost_ret (v := .agg #[.slice (some ⟨g1, 0, none⟩) t.length t.length, .slice (some ⟨g2, 0, none⟩) e.length e.length]) ?_ rfl ?_
  · simp [results, Try.results15, go_sem, c10, c11]
  · have st : ∀ (u : World) (l : List St) (a : Option Addr) (k o : Nat) (v : Value), k ≤ w.heap.size + 1 + 1 → SlAt u (Fresh (w.heap.size + 1 + 1 + 1)) l a → SlAt (u.setCell ⟨k, o, none⟩ v) (Fresh (w.heap.size + 1 + 1 + 1)) l a :=
      fun u l a k o v hk h => h.gr (own_set u k o v) (fun b o hd e => by injection e with e; have := hd.1; omega)
    have si : ∀ (u : World) (l : List Int) (a : Option Addr) (k o : Nat) (v : Value), k ≤ w.heap.size + 1 + 1 → InAt u (fun b _ => w.heap.size + 1 + 1 + 1 ≤ b) l a → InAt (u.setCell ⟨k, o, none⟩ v) (fun b _ => w.heap.size + 1 + 1 + 1 ≤ b) l a :=
      fun u l a k o v hk h => h.gr (own_set u k o v) (fun b o hd e => by injection e with e; have hd' : w.heap.size + 1 + 1 + 1 ≤ b := hd; omega)
    refine ⟨g1, g2, rfl, ?_, ?_, ?_, ?_⟩
    · exact (si _ _ _ _ _ _ (by omega) (si _ _ _ _ _ _ (by omega) (si _ _ _ _ _ _ (by omega) HT2))).mono (fun b o hd => by have hd' : w.heap.size + 1 + 1 + 1 ≤ b := hd; show w.heap.size ≤ b; omega) (fun _ _ _ _ h => h)
    · exact (st _ _ _ _ _ _ (by omega) (st _ _ _ _ _ _ (by omega) (st _ _ _ _ _ _ (by omega) HE2))).mono (fun b o hd => ⟨by have := hd.1; omega, hd.2⟩) (fun _ _ _ _ _ _ h => h)
    · exact ((HG2.out.setNew (by simp; omega) _).setNew (by simp) _).setNew (by simp) _
    · exact ((HU2.out.set _ _).set _ _).set _ _
end Go.Proofs.Ytgphnpljjilfjaa

/- Walks of the laws' own helpers: copies of a program's statements. -/
import Derived.Test.YtjlnfmiekmliaaaH3
namespace Go.Proofs.Ytjlnfmiekmliaaa
open Go.RowKit

/-- Where copies lie. -/
def Fresh (B : Nat) (b o : Nat) : Prop := B ≤ b ∧ o % 6 = 0
/-- A copied list of statements. -/
def CopiedS (l : List St) (w : World) (e : Ending) (w' : World) : Prop :=
  ∃ (g : Nat), e = .returned (.slice (some ⟨g, 0, none⟩) l.length l.length) ∧ SlAt w' (Fresh w.heap.size) l (some ⟨g, 0, none⟩) ∧ Gr w w' none ∧ Unf w w'
/-- A copied statement: its lists are new. -/
def CopiedT (s : St) (w : World) (e : Ending) (w' : World) : Prop :=
  ∃ (g1 g2 : Nat), e = .returned (.agg #[.int .i64 s.op, .int .i64 s.x, .int .i64 s.y, .int .i64 s.n, .slice (some ⟨g1, 0, none⟩) s.thn.length s.thn.length, .slice (some ⟨g2, 0, none⟩) s.els.length s.els.length]) ∧
    SlAt w' (Fresh w.heap.size) s.thn (some ⟨g1, 0, none⟩) ∧ SlAt w' (Fresh w.heap.size) s.els (some ⟨g2, 0, none⟩) ∧ Gr w w' none ∧ Unf w w'
def ToC (n : Nat) : Prop := ∀ (s : St) (at' ae : Option Addr) (ct ce : Nat) (w : World), s.inner + 1 ≤ n → n ≤ 1048576 →
  SlAt w Any s.thn at' → SlAt w Any s.els ae →
  Calls Try.prog 90 #[.agg #[.int .i64 s.op, .int .i64 s.x, .int .i64 s.y, .int .i64 s.n, .slice at' s.thn.length ct, .slice ae s.els.length ce]] w (CopiedT s w)
def ToSC (n : Nat) : Prop := ∀ (l : List St) (a : Option Addr) (c : Nat) (w : World), St.count l ≤ n → n ≤ 1048576 → SlAt w Any l a →
  Calls Try.prog 59 #[.slice a l.length c] w (CopiedS l w)

/-- Six cells are stored. -/
def set6 (w : World) (g o : Nat) (v0 v1 v2 v3 v4 v5 : Value) : World :=
  (((((w.setCell ⟨g, o, none⟩ v0).setCell ⟨g, o + 1, none⟩ v1).setCell ⟨g, o + 2, none⟩ v2).setCell ⟨g, o + 3, none⟩ v3).setCell ⟨g, o + 4, none⟩ v4).setCell ⟨g, o + 5, none⟩ v5

set_option maxRecDepth 100000 in
set_option maxHeartbeats 2000000 in
theorem to_step (n : Nat) (hA : ToSC n) : ToC (n + 1) := by
  intro s at' ae ct ce w hn hn2 hT hE
  obtain ⟨op, x, y, nn, t, e⟩ := s
  simp only [St.thn, St.els, St.op, St.x, St.y, St.n, St.inner] at *
  have HA := Lib.hid hA
  clear hA
  have hg0 : ∀ a b c, Gr w (((w.alloc a).alloc b).alloc c) none := fun a b c => (((Gr.refl _ _).alloc _).alloc _).alloc _
  go_enter Try.func90, Try.ntmps90
  go_wp2_with fail
  refine (HA.out t at' ct _ (by omega) (by omega) (hT.gr0 (hg0 _ _ _))).mono ?_
  rintro e' w1 ⟨g1, rfl, hs1, hg1, hu1⟩
  have hz1 : w.heap.size + 1 + 1 + 1 ≤ w1.heap.size := by have := hg1.size; simpa using this
  have hb2 : w1.heap[w.heap.size + 1 + 1]? = some (.cells #[.int .i64 op, .int .i64 x, .int .i64 y, .int .i64 nn, .slice none 0 0, .slice none 0 0] 100 (0, 0)) := (hg1.block _ (by simp) (by simp)).trans (heap3_2 _ _ _ _)
  have hb1 : w1.heap[w.heap.size + 1]? = some (.cells #[.int .i64 0, .int .i64 0, .int .i64 0, .int .i64 0, .slice none 0 0, .slice none 0 0] 100 (0, 0)) := (hg1.block _ (by simp) (by simp)).trans (heap3_1 _ _ _ _)
  have hb0 : w1.heap[w.heap.size]? = some (.cells #[.int .i64 op, .int .i64 x, .int .i64 y, .int .i64 nn, .slice at' t.length ct, .slice ae e.length ce] 98 (0, 0)) := (hg1.block _ (by simp; omega) (by simp)).trans (heap3_0 _ _ _ _)
  have p4 : w1.cell? ⟨w.heap.size + 1 + 1, 4, none⟩ = some (.slice none 0 0) := cell_of_row _ _ 4 _ _ _ hb2
  have f2 : ∀ o, w1.frozen? ⟨w.heap.size + 1 + 1, o, none⟩ = false := fun o => by simp [World.frozen?, hb2]
  have p5 : w1.cell? ⟨w.heap.size, 5, none⟩ = some (.slice ae e.length ce) := cell_of_row _ _ 5 _ _ _ hb0
  have HB2 := Lib.hid hb2
  have HB1 := Lib.hid hb1
  have HG1 := Lib.hid ((hg0 _ _ _).trans0 hg1)
  have HU1 := Lib.hid ((((Unf.refl w).alloc _ _).alloc _ _).alloc _ _ |>.trans hg1 hu1)
  have HS1 := Lib.hid hs1
  clear hb2 hb1 hb0 hg1 hu1 hs1
  have hg2' : ∀ v, Gr w1 (w1.setCell ⟨w.heap.size + 1 + 1, 4, none⟩ v) (some (w.heap.size + 1 + 1)) := fun v => (Gr.refl _ _).setOwn rfl _
  have hE1 := (hE.old (n := w.heap.size + 1 + 1) (by omega)).gr0 HG1.out
  go_wp2_with fail
  refine (HA.out e ae ce _ (by omega) (by omega) ((hE1.gr (hg2' _) (off_ne _)).any)).mono ?_
  rintro e' w2 ⟨g2, rfl, hs2, hg2, hu2⟩
  have hszs : (w1.setCell ⟨w.heap.size + 1 + 1, 4, none⟩ (.slice (some ⟨g1, 0, none⟩) t.length t.length)).heap.size = w1.heap.size := by simp [World.setCell]
  have hz2 : w1.heap.size ≤ w2.heap.size := by have := hg2.size; omega
  have hb2 : w2.heap[w.heap.size + 1 + 1]? = some (.cells #[.int .i64 op, .int .i64 x, .int .i64 y, .int .i64 nn, .slice (some ⟨g1, 0, none⟩) t.length t.length, .slice none 0 0] 100 (0, 0)) := (hg2.block _ (by omega) (by simp)).trans (row_set _ HB2.out)
  have hb1 : w2.heap[w.heap.size + 1]? = some (.cells #[.int .i64 0, .int .i64 0, .int .i64 0, .int .i64 0, .slice none 0 0, .slice none 0 0] 100 (0, 0)) := (hg2.block _ (by omega) (by simp)).trans ((Below.heap_setCell _ _ _ _ (by simp)).trans HB1.out)
  have HG2 := Lib.hid ((HG1.out.setNew (p := ⟨w.heap.size + 1 + 1, 4, none⟩) (by simp; omega) _).trans0 hg2)
  have HU2 := Lib.hid ((HU1.out.set _ _).trans hg2 hu2)
  have HT2 : SlAt w2 (Fresh (w.heap.size + 1 + 1 + 1)) t (some ⟨g1, 0, none⟩) := ((HS1.out.gr (hg2' _) (fun b o hd e => by injection e with e; have := hd.1; simp at this; omega)).gr0 hg2).mono (fun b o hd => ⟨by have := hd.1; simp at this; omega, hd.2⟩) (fun _ _ _ _ _ _ h => h)
  have HE2 : SlAt w2 (Fresh (w.heap.size + 1 + 1 + 1)) e (some ⟨g2, 0, none⟩) := hs2.mono (fun b o hd => ⟨by have := hd.1; omega, hd.2⟩) (fun _ _ _ _ _ _ h => h)
  have c20 := cell_of_row _ _ 0 _ _ _ hb2
  have c21 := cell_of_row _ _ 1 _ _ _ hb2
  have c22 := cell_of_row _ _ 2 _ _ _ hb2
  have c23 := cell_of_row _ _ 3 _ _ _ hb2
  have c24 := cell_of_row _ _ 4 _ _ _ hb2
  have c25 := cell_of_row _ _ 5 _ _ _ hb2
  have c10 := cell_of_row _ _ 0 _ _ _ hb1
  have c11 := cell_of_row _ _ 1 _ _ _ hb1
  have c12 := cell_of_row _ _ 2 _ _ _ hb1
  have c13 := cell_of_row _ _ 3 _ _ _ hb1
  have c14 := cell_of_row _ _ 4 _ _ _ hb1
  have c15 := cell_of_row _ _ 5 _ _ _ hb1
  have f22 : ∀ o, w2.frozen? ⟨w.heap.size + 1 + 1, o, none⟩ = false := fun o => by simp [World.frozen?, hb2]
  have f21 : ∀ o, w2.frozen? ⟨w.heap.size + 1, o, none⟩ = false := fun o => by simp [World.frozen?, hb1]
  clear hb1 hb2 hs2 hg2 hu2 hszs p4 f2 p5 HS1 hg2' hE1 HB1 HB2
  simp at c20 c21 c22 c23 c24 c25 c10 c11 c12 c13 c14 c15
  go_wp2_with fail
  refine bodyPost_ret (v := .agg #[.int .i64 op, .int .i64 x, .int .i64 y, .int .i64 nn, .slice (some ⟨g1, 0, none⟩) t.length t.length, .slice (some ⟨g2, 0, none⟩) e.length e.length]) ?_ rfl ?_
  · simp [results, Try.results90, go_sem, c10, c11, c12, c13, c14, c15]
  · have st : ∀ (u : World) (l : List St) (a : Option Addr) (k o : Nat) (v : Value), k ≤ w.heap.size + 1 + 1 → SlAt u (Fresh (w.heap.size + 1 + 1 + 1)) l a → SlAt (u.setCell ⟨k, o, none⟩ v) (Fresh (w.heap.size + 1 + 1 + 1)) l a :=
      fun u l a k o v hk h => h.gr (own_set u k o v) (fun b o hd e => by injection e with e; have := hd.1; omega)
    have fin : ∀ (u : World) (l : List St) (a : Option Addr), SlAt u (Fresh (w.heap.size + 1 + 1 + 1)) l a → SlAt u (Fresh w.heap.size) l a :=
      fun u l a h => h.mono (fun b o hd => ⟨by have := hd.1; omega, hd.2⟩) (fun _ _ _ _ _ _ h => h)
    refine ⟨g1, g2, rfl, fin _ _ _ ?_, fin _ _ _ ?_, ?_, ?_⟩
    · exact st _ _ _ _ _ _ (by omega) (st _ _ _ _ _ _ (by omega) (st _ _ _ _ _ _ (by omega) (st _ _ _ _ _ _ (by omega) (st _ _ _ _ _ _ (by omega) (st _ _ _ _ _ _ (by omega) (st _ _ _ _ _ _ (by omega) HT2))))))
    · exact st _ _ _ _ _ _ (by omega) (st _ _ _ _ _ _ (by omega) (st _ _ _ _ _ _ (by omega) (st _ _ _ _ _ _ (by omega) (st _ _ _ _ _ _ (by omega) (st _ _ _ _ _ _ (by omega) (st _ _ _ _ _ _ (by omega) HE2))))))
    · exact ((((((HG2.out.setNew (by simp; omega) _).setNew (by simp) _).setNew (by simp) _).setNew (by simp) _).setNew (by simp) _).setNew (by simp) _).setNew (by simp) _
    · exact ((((((HU2.out.set _ _).set _ _).set _ _).set _ _).set _ _).set _ _).set _ _

theorem Sinfo : (Try.prog.info? 100).map (fun i => (i.zero, i.size, i.bytes)) = some (some (.agg #[.int .i64 0, .int .i64 0, .int .i64 0, .int .i64 0, .slice none 0 0, .slice none 0 0]), 6, 80) := by kernel_rfl
def zero6 : Array Value := #[.int .i64 0, .int .i64 0, .int .i64 0, .int .i64 0, .slice none 0 0, .slice none 0 0]
theorem run_make_stmts (n : Nat) (hn : n ≤ 1048576) (w : World) :
    (Instr.makeSlice 28 (.int .i64 (n : Int)) (.int .i64 (n : Int))).run Try.prog w = .ok (.slice (some ⟨w.heap.size, 0, none⟩) n n) (w.alloc (.cells (madeCells zero6 (n * 6)) 100)) := by
  obtain ⟨i0, hi, hz0, hz1, hz2⟩ := info_parts Sinfo
  have h := run_make (P := Try.prog) w 28 100 i0 _ Try.underlying28 hi hz0 .i64 .i64 n n (by omega) (Int.le_refl _) (by rw [hz2]; omega) (by omega)
  rw [hz1] at h
  simp only [Int.toNat_natCast] at h
  exact h
/-- A row of statements of the call's own, of which the first k are those of l. -/
def FillS (B : Nat) (w : World) (g : Nat) (l : List St) (k : Nat) : Prop :=
  (∃ arr : Array Value, w.heap[g]? = some (.cells arr 100 (0, 0)) ∧ arr.size = l.length * 6) ∧ ∀ j (h : j < l.length), j < k → StAt w (fun b o => B ≤ b ∧ o % 6 = 0 ∧ (b = g → o < k * 6)) l[j] g (j * 6)
theorem FillS.cell {B : Nat} {w : World} {g k : Nat} {l : List St} (h : FillS B w g l k) {o : Nat} (ho : o < l.length * 6) : ∃ v, w.cell? ⟨g, o, none⟩ = some v := by
  obtain ⟨⟨arr, h1, h2⟩, _⟩ := h
  exact ⟨arr[o]'(by omega), by rw [cell_of_row w g o _ _ _ h1]; simp [h2, ho]⟩
theorem FillS.free {B : Nat} {w : World} {g k : Nat} {l : List St} (h : FillS B w g l k) (o : Nat) : w.frozen? ⟨g, o, none⟩ = false := by
  obtain ⟨⟨arr, h1, _⟩, _⟩ := h
  simp [World.frozen?, h1]
theorem FillS.lt {B : Nat} {w : World} {g k : Nat} {l : List St} (h : FillS B w g l k) : g < w.heap.size := by
  obtain ⟨⟨arr, h1, _⟩, _⟩ := h
  exact lt_of_block h1
theorem FillS.gr {B : Nat} {w w' : World} {g k : Nat} {l : List St} (h : FillS B w g l k) (hg : Gr w w' none) : FillS B w' g l k := by
  have hlt := h.lt
  obtain ⟨⟨arr, h1, h2⟩, h3⟩ := h
  exact ⟨⟨arr, (hg.block g hlt (by simp)).trans h1, h2⟩, fun j hj hk => StAt.mono (fun _ _ h => h) (fun b o v hd i hi hc => hg.cell hc (by simp)) _ _ _ (h3 j hj hk)⟩
theorem set_heap6 {w : World} {g o : Nat} {arr : Array Value} {t : TypeId} {v0 v1 v2 v3 v4 v5 : Value} (h : w.heap[g]? = some (.cells arr t (0, 0))) :
    (set6 w g o v0 v1 v2 v3 v4 v5).heap[g]? = some (.cells ((((((arr.setIfInBounds o v0).setIfInBounds (o + 1) v1).setIfInBounds (o + 2) v2).setIfInBounds (o + 3) v3).setIfInBounds (o + 4) v4).setIfInBounds (o + 5) v5) t (0, 0)) :=
  row_set _ (row_set _ (row_set _ (row_set _ (row_set _ (row_set _ h)))))
theorem set_gr6 (w : World) (g o : Nat) (v0 v1 v2 v3 v4 v5 : Value) : Gr w (set6 w g o v0 v1 v2 v3 v4 v5) (some g) :=
  ((((((Gr.refl w (some g)).setOwn rfl _).setOwn rfl _).setOwn rfl _).setOwn rfl _).setOwn rfl _).setOwn rfl _
theorem FillS.step {B : Nat} {w : World} {g k : Nat} {l : List St} (h : FillS B w g l k) (hB : B ≤ g) (hk : k < l.length) {s : St} (hs : l[k] = s) {G g1 g2 c1 c2 : Nat} (hG : g < G) (_hGB : B ≤ G) (h1 : SlAt w (Fresh G) s.thn (some ⟨g1, 0, none⟩)) (h2 : SlAt w (Fresh G) s.els (some ⟨g2, 0, none⟩))
    (ht : s.thn.length ≤ maxLen) (he : s.els.length ≤ maxLen) :
    FillS B (set6 w g (k * 6) (.int .i64 s.op) (.int .i64 s.x) (.int .i64 s.y) (.int .i64 s.n) (.slice (some ⟨g1, 0, none⟩) s.thn.length c1) (.slice (some ⟨g2, 0, none⟩) s.els.length c2)) g l (k + 1) := by
  have hlt := h.lt
  obtain ⟨⟨arr, a1, a2⟩, h3⟩ := h
  have hh := set_heap6 (o := k * 6) (v0 := .int .i64 s.op) (v1 := .int .i64 s.x) (v2 := .int .i64 s.y) (v3 := .int .i64 s.n) (v4 := .slice (some ⟨g1, 0, none⟩) s.thn.length c1) (v5 := .slice (some ⟨g2, 0, none⟩) s.els.length c2) a1
  have hgr := set_gr6 w g (k * 6) (.int .i64 s.op) (.int .i64 s.x) (.int .i64 s.y) (.int .i64 s.n) (.slice (some ⟨g1, 0, none⟩) s.thn.length c1) (.slice (some ⟨g2, 0, none⟩) s.els.length c2)
  generalize set6 w g (k * 6) (.int .i64 s.op) (.int .i64 s.x) (.int .i64 s.y) (.int .i64 s.n) (.slice (some ⟨g1, 0, none⟩) s.thn.length c1) (.slice (some ⟨g2, 0, none⟩) s.els.length c2) = w' at *
  refine ⟨⟨_, hh, by simpa using a2⟩, fun j hj hjk => ?_⟩
  by_cases e : j = k
  · subst e
    rw [hs]
    have hsub : ∀ (m : List St) (a : Option Addr), SlAt w (Fresh G) m a → SlAt w' (fun b o => B ≤ b ∧ o % 6 = 0 ∧ (b = g → o < (j + 1) * 6)) m a := fun m a hm =>
      (hm.gr hgr (fun b o hd e => by injection e with e; have := hd.1; omega)).mono (fun b o hd => ⟨by have := hd.1; omega, hd.2, fun e => by have := hd.1; omega⟩) (fun _ _ _ _ _ _ h => h)
    refine StAt.into ⟨⟨hB, by omega, fun _ => by omega⟩, ht, he, some ⟨g1, 0, none⟩, c1, some ⟨g2, 0, none⟩, c2, ?_, ?_, ?_, ?_, ?_, ?_, hsub _ _ h1, hsub _ _ h2⟩
    · rw [cell_of_row _ _ _ _ _ _ hh]; simp [Array.getElem?_setIfInBounds, a2]; omega
    · rw [cell_of_row _ _ _ _ _ _ hh]; simp [Array.getElem?_setIfInBounds, a2]; omega
    · rw [cell_of_row _ _ _ _ _ _ hh]; simp [Array.getElem?_setIfInBounds, a2]; omega
    · rw [cell_of_row _ _ _ _ _ _ hh]; simp [Array.getElem?_setIfInBounds, a2]; omega
    · rw [cell_of_row _ _ _ _ _ _ hh]; simp [Array.getElem?_setIfInBounds, a2]; omega
    · rw [cell_of_row _ _ _ _ _ _ hh]; simp [Array.getElem?_setIfInBounds, a2]; omega
  · refine StAt.mono (fun b o hd => ⟨hd.1, hd.2.1, fun e => by have := hd.2.2 e; omega⟩) (fun b o v hd i hi hc => ?_) _ _ _ (h3 j hj (by omega))
    by_cases eb : b = g
    · subst eb
      have hlt2 := hd.2.2 rfl
      have hm := hd.2.1
      rw [cell_of_row _ _ _ _ _ _ a1] at hc
      rw [cell_of_row _ _ _ _ _ _ hh]
      simp only [Array.getElem?_setIfInBounds]
      rw [if_neg (by omega), if_neg (by omega), if_neg (by omega), if_neg (by omega), if_neg (by omega), if_neg (by omega)]
      exact hc
    · exact hgr.cell hc (fun e => eb (by injection e with e; exact e.symm))
theorem FillS.done {B : Nat} {w : World} {g : Nat} {l : List St} (h : FillS B w g l l.length) : SlAt w (Fresh B) l (some ⟨g, 0, none⟩) :=
  SlAt.of fun i hi => by
    have := StAt.mono (D' := Fresh B) (fun b o hd => ⟨hd.1, hd.2.1⟩) (fun _ _ _ _ _ _ h => h) _ _ _ (h.2 i hi hi)
    simpa using this

set_option maxRecDepth 100000 in
set_option maxHeartbeats 2000000 in
theorem tos_step (n : Nat) (hS : ToC n) : ToSC n := by
  intro l a c w hn hn2 hL
  have HS := Lib.hid hS
  clear hS
  have hlc := length_count l
  have hll : l.length ≤ 1048576 := by omega
  have hmk := fun w : World => run_make_stmts l.length hll w
  have hF0 : FillS w.heap.size (w.alloc (.cells (madeCells zero6 (l.length * 6)) 100)) w.heap.size l 0 := ⟨⟨_, heap1_0 _ _, by simp [madeCells]⟩, by omega⟩
  have hU0 : Unf w (w.alloc (.cells (madeCells zero6 (l.length * 6)) 100)) := (Unf.refl w).alloc _ _
  have hG0 : Gr w (w.alloc (.cells (madeCells zero6 (l.length * 6)) 100)) none := (Gr.refl _ _).alloc _
  go_enter Try.func59, Try.ntmps59
  go_wp2
  go_loopw [4] (fun i wr => ∃ k : Nat, k ≤ l.length ∧ i = .int .i64 k ∧ FillS w.heap.size wr w.heap.size l k ∧ Gr w wr none ∧ Unf w wr) (fun i _ => l.length - (intOf i).toNat)
  case atStart => exact ⟨0, Nat.zero_le _, rfl, hF0, hG0, hU0⟩
  case round =>
    obtain ⟨k, hk, rfl, hF, hG, hU⟩ := hrel
    clear hmk hF0 hU0 hG0
    by_cases hlt : k < l.length
    · obtain ⟨b, off, rfl, hs⟩ := (hL.gr0 hG).at hlt
      have hin := count_get hlt
      obtain ⟨s, es⟩ : ∃ s, l[k] = s := ⟨_, rfl⟩
      rw [es] at hs hin
      have ES := Lib.hid es
      clear es
      obtain ⟨_, ht, he, at', ct, ae, ce, c0, c1, c2, c3, c4, c5, r4, r5⟩ := hs.out
      go_wp2_with fail
      refine (HS.out s at' ae ct ce wr (by omega) (by omega) r4 r5).mono ?_
      rintro e w1 ⟨g1, g2, rfl, h1, h2, hg1, hu1⟩
      have hF1 := hF.gr hg1
      have hlt2 := hF.lt
      obtain ⟨v0, d0⟩ := hF1.cell (o := k * 6) (by omega)
      obtain ⟨v1, d1⟩ := hF1.cell (o := k * 6 + 1) (by omega)
      obtain ⟨v2, d2⟩ := hF1.cell (o := k * 6 + 2) (by omega)
      obtain ⟨v3, d3⟩ := hF1.cell (o := k * 6 + 3) (by omega)
      obtain ⟨v4, d4⟩ := hF1.cell (o := k * 6 + 4) (by omega)
      obtain ⟨v5, d5⟩ := hF1.cell (o := k * 6 + 5) (by omega)
      have hf := hF1.free
      clear c0 c1 c2 c3 c4 c5 hs r4 r5
      go_wp2_with fail
      go_roundw
      case rel => exact ⟨k + 1, by omega, by go_num, hF1.step (Nat.le_refl _) hlt ES.out hlt2 (by omega) h1 h2 ht he, (hG.trans0 hg1).trans (set_gr6 _ _ _ _ _ _ _ _ _) (fun r hr => .inr (by injection hr with hr; omega)), ((((((hU.trans hg1 hu1).set _ _).set _ _).set _ _).set _ _).set _ _).set _ _⟩
      case measure => simp [intOf]; omega
    · obtain rfl : k = l.length := by omega
      go_wp2
      go_ret
      exact ⟨_, rfl, hF.done, hG, hU⟩
theorem to_all : ∀ n, ToC n ∧ ToSC n
  | 0 => ⟨fun s _ _ _ _ _ h => absurd h (by omega), tos_step 0 (fun s _ _ _ _ _ h => absurd h (by omega))⟩
  | n + 1 => ⟨to_step n (to_all n).2, tos_step (n + 1) (to_step n (to_all n).2)⟩
end Go.Proofs.Ytjlnfmiekmliaaa

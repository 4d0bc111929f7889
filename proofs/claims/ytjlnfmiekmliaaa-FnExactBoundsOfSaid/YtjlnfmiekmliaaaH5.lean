/- Walks of the laws' own helpers: a copy of a program. -/
import Derived.Test.YtjlnfmiekmliaaaH4
namespace Go.Proofs.Ytjlnfmiekmliaaa
open Go.RowKit

/-- A copied program. -/
def CopiedP (p : Pr) (w : World) (e : Ending) (w' : World) : Prop :=
  ∃ (g1 g2 : Nat), e = .returned (.agg #[.slice (some ⟨g1, 0, none⟩) p.types.length p.types.length, .slice (some ⟨g2, 0, none⟩) p.body.length p.body.length]) ∧
    InAt w' (fun b _ => w.heap.size ≤ b) p.types (some ⟨g1, 0, none⟩) ∧ SlAt w' (Fresh w.heap.size) p.body (some ⟨g2, 0, none⟩) ∧ Gr w w' none ∧ Unf w w'

set_option maxRecDepth 100000 in
set_option maxHeartbeats 2000000 in
theorem toProgram_any (p : Pr) (at' ab : Option Addr) (ct cb : Nat) (w : World) (hT : InAt w Any p.types at') (hB : SlAt w Any p.body ab) (hs : p.size ≤ 1048576) :
    Calls Try.prog 17 #[.agg #[.slice at' p.types.length ct, .slice ab p.body.length cb]] w (CopiedP p w) := by
  obtain ⟨t, e⟩ := p
  simp only [Pr.size] at *
  have hg0 : ∀ a b c, Gr w (((w.alloc a).alloc b).alloc c) none := fun a b c => (((Gr.refl _ _).alloc _).alloc _).alloc _
  go_enter Try.func17, Try.ntmps17
  go_wp2_with fail
  refine (toIntS_any t at' ct _ (hT.gr0 (hg0 _ _ _)) (by omega)).mono ?_
  rintro e' w1 ⟨g1, rfl, hs1, hg1, hu1⟩
  have hz1 : w.heap.size + 1 + 1 + 1 ≤ w1.heap.size := by have := hg1.size; simpa using this
  have hb2 : w1.heap[w.heap.size + 1 + 1]? = some (.cells #[.slice none 0 0, .slice none 0 0] 30 (0, 0)) := (hg1.block _ (by simp) (by simp)).trans (heap3_2 _ _ _ _)
  have hb1 : w1.heap[w.heap.size + 1]? = some (.cells #[.slice none 0 0, .slice none 0 0] 30 (0, 0)) := (hg1.block _ (by simp) (by simp)).trans (heap3_1 _ _ _ _)
  have hb0 : w1.heap[w.heap.size]? = some (.cells #[.slice at' t.length ct, .slice ab e.length cb] 25 (0, 0)) := (hg1.block _ (by simp; omega) (by simp)).trans (heap3_0 _ _ _ _)
  have p4 : w1.cell? ⟨w.heap.size + 1 + 1, 0, none⟩ = some (.slice none 0 0) := cell_of_row _ _ 0 _ _ _ hb2
  have f2 : ∀ o, w1.frozen? ⟨w.heap.size + 1 + 1, o, none⟩ = false := fun o => by simp [World.frozen?, hb2]
  have p5 : w1.cell? ⟨w.heap.size, 1, none⟩ = some (.slice ab e.length cb) := cell_of_row _ _ 1 _ _ _ hb0
  have HB2 := Lib.hid hb2
  have HB1 := Lib.hid hb1
  have HG1 := Lib.hid ((hg0 _ _ _).trans0 hg1)
  have HU1 := Lib.hid ((((Unf.refl w).alloc _ _).alloc _ _).alloc _ _ |>.trans hg1 hu1)
  have HS1 := Lib.hid hs1
  clear hb2 hb1 hb0 hg1 hu1 hs1
  have hg2' : ∀ v, Gr w1 (w1.setCell ⟨w.heap.size + 1 + 1, 0, none⟩ v) (some (w.heap.size + 1 + 1)) := fun v => (Gr.refl _ _).setOwn rfl _
  have hE1 := (hB.old (n := w.heap.size + 1 + 1) (by omega)).gr0 HG1.out
  go_wp2_with fail
  refine ((to_all _).2 e ab cb _ (Nat.le_refl _) (by omega) ((hE1.gr (hg2' _) (off_ne _)).any)).mono ?_
  rintro e' w2 ⟨g2, rfl, hs2, hg2, hu2⟩
  have hszs : (w1.setCell ⟨w.heap.size + 1 + 1, 0, none⟩ (.slice (some ⟨g1, 0, none⟩) t.length t.length)).heap.size = w1.heap.size := by simp [World.setCell]
  have hz2 : w1.heap.size ≤ w2.heap.size := by have := hg2.size; omega
  have hb2 : w2.heap[w.heap.size + 1 + 1]? = some (.cells #[.slice (some ⟨g1, 0, none⟩) t.length t.length, .slice none 0 0] 30 (0, 0)) := (hg2.block _ (by omega) (by simp)).trans (row_set _ HB2.out)
  have hb1 : w2.heap[w.heap.size + 1]? = some (.cells #[.slice none 0 0, .slice none 0 0] 30 (0, 0)) := (hg2.block _ (by omega) (by simp)).trans ((Below.heap_setCell _ _ _ _ (by simp)).trans HB1.out)
  have HG2 := Lib.hid ((HG1.out.setNew (p := ⟨w.heap.size + 1 + 1, 0, none⟩) (by simp; omega) _).trans0 hg2)
  have HU2 := Lib.hid ((HU1.out.set _ _).trans hg2 hu2)
  have HT2 : InAt w2 (fun b _ => w.heap.size + 1 + 1 + 1 ≤ b) t (some ⟨g1, 0, none⟩) := ((HS1.out.gr (hg2' _) (fun b o hd e => by injection e with e; simp at hd; omega)).gr0 hg2).mono (fun b o hd => by simp at hd; omega) (fun _ _ _ _ h => h)
  have HE2 : SlAt w2 (Fresh (w.heap.size + 1 + 1 + 1)) e (some ⟨g2, 0, none⟩) := hs2.mono (fun b o hd => ⟨by have := hd.1; omega, hd.2⟩) (fun _ _ _ _ _ _ h => h)
  have c20 := cell_of_row _ _ 0 _ _ _ hb2
  have c21 := cell_of_row _ _ 1 _ _ _ hb2
  have c10 := cell_of_row _ _ 0 _ _ _ hb1
  have c11 := cell_of_row _ _ 1 _ _ _ hb1
  have f22 : ∀ o, w2.frozen? ⟨w.heap.size + 1 + 1, o, none⟩ = false := fun o => by simp [World.frozen?, hb2]
  have f21 : ∀ o, w2.frozen? ⟨w.heap.size + 1, o, none⟩ = false := fun o => by simp [World.frozen?, hb1]
  clear hb1 hb2 hs2 hg2 hu2 hszs p4 f2 p5 HS1 hg2' hE1 HB1 HB2
  simp at c20 c21 c10 c11
  go_wp2_with fail
  refine bodyPost_ret (v := .agg #[.slice (some ⟨g1, 0, none⟩) t.length t.length, .slice (some ⟨g2, 0, none⟩) e.length e.length]) ?_ rfl ?_
  · simp [results, Try.results17, go_sem, c10, c11]
  · have st : ∀ (u : World) (l : List St) (a : Option Addr) (k o : Nat) (v : Value), k ≤ w.heap.size + 1 + 1 → SlAt u (Fresh (w.heap.size + 1 + 1 + 1)) l a → SlAt (u.setCell ⟨k, o, none⟩ v) (Fresh (w.heap.size + 1 + 1 + 1)) l a :=
      fun u l a k o v hk h => h.gr (own_set u k o v) (fun b o hd e => by injection e with e; have := hd.1; omega)
    have si : ∀ (u : World) (l : List Int) (a : Option Addr) (k o : Nat) (v : Value), k ≤ w.heap.size + 1 + 1 → InAt u (fun b _ => w.heap.size + 1 + 1 + 1 ≤ b) l a → InAt (u.setCell ⟨k, o, none⟩ v) (fun b _ => w.heap.size + 1 + 1 + 1 ≤ b) l a :=
      fun u l a k o v hk h => h.gr (own_set u k o v) (fun b o hd e => by injection e with e; have hd' : w.heap.size + 1 + 1 + 1 ≤ b := hd; omega)
    refine ⟨g1, g2, rfl, ?_, ?_, ?_, ?_⟩
    · exact (si _ _ _ _ _ _ (by omega) (si _ _ _ _ _ _ (by omega) (si _ _ _ _ _ _ (by omega) HT2))).mono (fun b o hd => by have hd' : w.heap.size + 1 + 1 + 1 ≤ b := hd; show w.heap.size ≤ b; omega) (fun _ _ _ _ h => h)
    · exact (st _ _ _ _ _ _ (by omega) (st _ _ _ _ _ _ (by omega) (st _ _ _ _ _ _ (by omega) HE2))).mono (fun b o hd => ⟨by have := hd.1; omega, hd.2⟩) (fun _ _ _ _ _ _ h => h)
    · exact ((HG2.out.setNew (by simp; omega) _).setNew (by simp) _).setNew (by simp) _
    · exact ((HU2.out.set _ _).set _ _).set _ _
end Go.Proofs.Ytjlnfmiekmliaaa

/- Walks of the laws' own helpers: marks that are written over a program. -/
import Derived.Test.YtjlnfmiekmliaaaM1
import Derived.Test.YtjlnfmiekmliaaaV5
import Derived.Test.YtjlnfmiekmliaaaH5
namespace Go.Proofs.Ytjlnfmiekmliaaa
open Go.RowKit

mutual
/-- A statement of this form lies there, whatever its ints. -/
def StSh (w : World) (P : Nat → Prop) : St → Nat → Nat → Prop
  | .mk _ _ _ _ t e, b, off => P b ∧ t.length ≤ maxLen ∧ e.length ≤ maxLen ∧ (∃ x0 x1 x2 x3 : Int,
      w.cell? ⟨b, off, none⟩ = some (.int .i64 x0) ∧ w.cell? ⟨b, off + 1, none⟩ = some (.int .i64 x1) ∧ w.cell? ⟨b, off + 2, none⟩ = some (.int .i64 x2) ∧ w.cell? ⟨b, off + 3, none⟩ = some (.int .i64 x3)) ∧
      ∃ at' ct ae ce, w.cell? ⟨b, off + 4, none⟩ = some (.slice at' t.length ct) ∧ w.cell? ⟨b, off + 5, none⟩ = some (.slice ae e.length ce) ∧ SlSh w P t at' ∧ SlSh w P e ae
def SlSh (w : World) (P : Nat → Prop) : List St → Option Addr → Prop
  | [], _ => True
  | s :: r, a => ∃ b off, a = some ⟨b, off, none⟩ ∧ StSh w P s b off ∧ SlSh w P r (some ⟨b, off + 6, none⟩)
end
mutual
theorem StSh.wr {P Q : Nat → Prop} {w w' : World} (h : Wr Q w w') : ∀ (s : St) (b off : Nat), StSh w P s b off → StSh w' P s b off
  | .mk _ _ _ _ t e, b, off, hs => by
    simp only [StSh] at hs ⊢
    obtain ⟨h0, ht, he, ⟨x0, x1, x2, x3, c0, c1, c2, c3⟩, at', ct, ae, ce, c4, c5, r4, r5⟩ := hs
    obtain ⟨y0, d0⟩ := h.int c0
    obtain ⟨y1, d1⟩ := h.int c1
    obtain ⟨y2, d2⟩ := h.int c2
    obtain ⟨y3, d3⟩ := h.int c3
    exact ⟨h0, ht, he, ⟨y0, y1, y2, y3, d0, d1, d2, d3⟩, at', ct, ae, ce, h.slice c4, h.slice c5, SlSh.wr h t at' r4, SlSh.wr h e ae r5⟩
theorem SlSh.wr {P Q : Nat → Prop} {w w' : World} (h : Wr Q w w') : ∀ (l : List St) (a : Option Addr), SlSh w P l a → SlSh w' P l a
  | [], _, _ => by simp [SlSh]
  | s :: r, a, hs => by
    simp only [SlSh] at hs ⊢
    obtain ⟨b, off, ha, h1, h2⟩ := hs
    exact ⟨b, off, ha, StSh.wr h s b off h1, SlSh.wr h r _ h2⟩
end
mutual
theorem StAt.sh {w : World} {D : Nat → Nat → Prop} {P : Nat → Prop} (hD : ∀ b o, D b o → P b) : ∀ (s : St) (b off : Nat), StAt w D s b off → StSh w P s b off
  | .mk _ _ _ _ t e, b, off, hs => by
    simp only [StAt] at hs
    simp only [StSh]
    obtain ⟨h0, ht, he, at', ct, ae, ce, c0, c1, c2, c3, c4, c5, r4, r5⟩ := hs
    exact ⟨hD _ _ h0, ht, he, ⟨_, _, _, _, c0, c1, c2, c3⟩, at', ct, ae, ce, c4, c5, SlAt.sh hD t at' r4, SlAt.sh hD e ae r5⟩
theorem SlAt.sh {w : World} {D : Nat → Nat → Prop} {P : Nat → Prop} (hD : ∀ b o, D b o → P b) : ∀ (l : List St) (a : Option Addr), SlAt w D l a → SlSh w P l a
  | [], _, _ => by simp [SlSh]
  | s :: r, a, hs => by
    simp only [SlAt] at hs
    simp only [SlSh]
    obtain ⟨b, off, ha, h1, h2⟩ := hs
    exact ⟨b, off, ha, StAt.sh hD s b off h1, SlAt.sh hD r _ h2⟩
end
theorem SlSh.at {w : World} {P : Nat → Prop} : ∀ {l : List St} {a : Option Addr}, SlSh w P l a → ∀ {i : Nat} (h : i < l.length), ∃ b off, a = some ⟨b, off, none⟩ ∧ StSh w P l[i] b (off + i * 6)
  | x :: r, a, h, 0, _ => by
    simp only [SlSh] at h
    obtain ⟨b, off, ha, hx, _⟩ := h
    exact ⟨b, off, ha, by simpa using hx⟩
  | x :: r, a, h, i + 1, hi => by
    simp only [SlSh] at h
    obtain ⟨b, off, ha, _, hr⟩ := h
    obtain ⟨b', off', e, hc⟩ := SlSh.at hr (i := i) (by simpa using hi)
    simp only [Option.some.injEq, Addr.mk.injEq] at e
    obtain ⟨rfl, rfl, _⟩ := e
    exact ⟨b, off, ha, by rw [show off + (i + 1) * 6 = off + 6 + i * 6 from by omega]; simpa using hc⟩
theorem StSh.out {w : World} {P : Nat → Prop} {s : St} {b off : Nat} (h : StSh w P s b off) : P b ∧ s.thn.length ≤ maxLen ∧ s.els.length ≤ maxLen ∧ (∃ x0 x1 x2 x3 : Int,
      w.cell? ⟨b, off, none⟩ = some (.int .i64 x0) ∧ w.cell? ⟨b, off + 1, none⟩ = some (.int .i64 x1) ∧ w.cell? ⟨b, off + 2, none⟩ = some (.int .i64 x2) ∧ w.cell? ⟨b, off + 3, none⟩ = some (.int .i64 x3)) ∧
      ∃ at' ct ae ce, w.cell? ⟨b, off + 4, none⟩ = some (.slice at' s.thn.length ct) ∧ w.cell? ⟨b, off + 5, none⟩ = some (.slice ae s.els.length ce) ∧ SlSh w P s.thn at' ∧ SlSh w P s.els ae := by
  cases s with
  | mk op x y n t e => simp only [StSh] at h; exact h

/-- Four ints are stored. -/
def set4 (w : World) (b o : Nat) (k : Int) : World :=
  (((w.setCell ⟨b, o, none⟩ (.int .i64 k)).setCell ⟨b, o + 1, none⟩ (.int .i64 (k + 1))).setCell ⟨b, o + 2, none⟩ (.int .i64 (k + 1 + 1))).setCell ⟨b, o + 3, none⟩ (.int .i64 (k + 1 + 1 + 1))
theorem wr4 {w : World} {P : Nat → Prop} {b o : Nat} (k : Int) {x0 x1 x2 x3 : Int} (hp : P b) (c0 : w.cell? ⟨b, o, none⟩ = some (.int .i64 x0)) (c1 : w.cell? ⟨b, o + 1, none⟩ = some (.int .i64 x1)) (c2 : w.cell? ⟨b, o + 2, none⟩ = some (.int .i64 x2)) (c3 : w.cell? ⟨b, o + 3, none⟩ = some (.int .i64 x3)) :
    Wr P w (set4 w b o k) := by
  have h0 : Wr P w (w.setCell ⟨b, o, none⟩ (.int .i64 k)) := Wr.set hp c0 ⟨_, rfl⟩
  obtain ⟨_, d1⟩ := h0.int c1
  have h1 := h0.trans (Wr.set (u := .int .i64 (k + 1)) hp d1 ⟨_, rfl⟩)
  obtain ⟨_, d2⟩ := h1.int c2
  have h2 := h1.trans (Wr.set (u := .int .i64 (k + 1 + 1)) hp d2 ⟨_, rfl⟩)
  obtain ⟨_, d3⟩ := h2.int c3
  exact h2.trans (Wr.set hp d3 ⟨_, rfl⟩)

def MarkSC (P : Nat → Prop) (n : Nat) : Prop := ∀ (l : List St) (a : Option Addr) (c : Nat) (k : Int) (w : World), St.count l ≤ n → 0 ≤ k → k + 4 * n ≤ 1099511627776 → SlSh w P l a → (∀ a : Addr, P a.block → w.frozen? a = false) →
  Calls Try.prog 73 #[.slice a l.length c, .int .i64 k] w fun e w' => e = .returned (.int .i64 (k + 4 * (St.count l : Nat))) ∧ Wr P w w'
set_option maxRecDepth 100000 in
set_option maxHeartbeats 2000000 in
theorem marks_step (P : Nat → Prop) (n : Nat) (hA : ∀ m, m < n → MarkSC P m) : MarkSC P n := by
  intro l a c k w hn hk0 hk hL hf
  have HA := Lib.hid hA
  have HF := Lib.hid hf
  clear hA hf
  have hlc := length_count l
  have hcl : ∀ j, St.count (l.take j) ≤ St.count l := fun j => count_take_le l j
  have HCL := Lib.hid hcl
  clear hcl
  go_enter Try.func73, Try.ntmps73
  go_wp2
  go_loopw [1, 5] (fun k' i wr => ∃ j : Nat, j ≤ l.length ∧ i = .int .i64 j ∧ k' = .int .i64 (k + 4 * (St.count (l.take j) : Nat)) ∧ Wr P w wr) (fun _ i _ => l.length - (intOf i).toNat)
  case atStart => exact ⟨0, Nat.zero_le _, rfl, by simp [St.count], Wr.refl _ _⟩
  case round =>
    obtain ⟨j, hj, rfl, rfl, hW⟩ := hrel
    by_cases hlt : j < l.length
    · obtain ⟨b, off, rfl, hs⟩ := (SlSh.wr hW _ _ hL).at hlt
      have hin := count_get hlt
      have hct := count_take_succ hlt
      have hcj := HCL.out j
      have hcj1 := HCL.out (j + 1)
      obtain ⟨s, es⟩ : ∃ s, l[j] = s := ⟨_, rfl⟩
      obtain ⟨q, hq⟩ : ∃ q, St.count (l.take j) = q := ⟨_, rfl⟩
      obtain ⟨q1, hq1⟩ : ∃ q1, St.count (l.take (j + 1)) = q1 := ⟨_, rfl⟩
      rw [hq, hq1, es] at hct
      rw [es] at hs hin
      rw [hq] at hcj
      rw [hq1] at hcj1
      rw [hq]
      have HQ := Lib.hid hq1
      clear es hq hq1
      have hii : s.inner = St.count s.thn + St.count s.els := by cases s; rfl
      have HII := Lib.hid hii
      have HCT := Lib.hid hct
      clear hct hii
      obtain ⟨hp, ht, he, ⟨x0, x1, x2, x3, c0, c1, c2, c3⟩, at', ct, ae, ce, c4, c5, r4, r5⟩ := hs.out
      have f0 : wr.frozen? ⟨b, off + j * 6, none⟩ = false := by rw [hW.frz]; exact HF.out ⟨b, _, none⟩ hp
      have f1 : wr.frozen? ⟨b, off + j * 6 + 1, none⟩ = false := by rw [hW.frz]; exact HF.out ⟨b, _, none⟩ hp
      have f2 : wr.frozen? ⟨b, off + j * 6 + 2, none⟩ = false := by rw [hW.frz]; exact HF.out ⟨b, _, none⟩ hp
      have f3 : wr.frozen? ⟨b, off + j * 6 + 3, none⟩ = false := by rw [hW.frz]; exact HF.out ⟨b, _, none⟩ hp
      have h4 := wr4 (k + 4 * (q : Nat)) hp c0 c1 c2 c3
      have hW4 := hW.trans h4
      go_wp2_with fail
      refine (HA.out (St.count s.thn) (by have := HII.out; omega) s.thn at' ct _ _ (Nat.le_refl _) (by omega) (by have := HII.out; have := HCT.out; omega) (by exact SlSh.wr h4 _ _ r4) (by intro a ha; exact (hW4.frz a).trans (HF.out a ha))).mono ?_
      rintro e w1 ⟨rfl, hw1⟩
      have hc5 := (h4.trans hw1).slice c5
      clear c0 c1 c2 c3 c4 f0 f1 f2 f3
      go_wp2_with fail
      refine (HA.out (St.count s.els) (by have := HII.out; omega) s.els ae ce _ _ (Nat.le_refl _) (by omega) (by have := HII.out; have := HCT.out; omega) (SlSh.wr (h4.trans hw1) _ _ r5) (by intro a ha; exact ((hW4.trans hw1).frz a).trans (HF.out a ha))).mono ?_
      rintro e w2 ⟨rfl, hw2⟩
      go_wp2_with fail
      go_roundw
      case rel => exact ⟨j + 1, by omega, by go_num, by rw [HQ.out]; have := HCT.out; have := HII.out; go_num, (hW4.trans hw1).trans hw2⟩
      case measure => simp [intOf]; omega
    · obtain rfl : j = l.length := by omega
      go_wp2
      go_ret
      exact ⟨ret_int (by rw [List.take_length]), hW⟩
theorem marks_all (P : Nat → Prop) : ∀ n, MarkSC P n := fun n => Nat.strongRecOn n (fun n ih => marks_step P n ih)

theorem IntsAt.gr {w w' : World} {P : Nat → Prop} {n : Nat} {a : Option Addr} (hI : IntsAt w P n a) (hg : Gr w w' none) : IntsAt w' P n a := by
  intro i hi
  obtain ⟨b, off, x, e, hd, hc⟩ := hI i hi
  exact ⟨b, off, x, e, hd, hg.cell hc (by simp)⟩
mutual
theorem StSh.gr {P : Nat → Prop} {w w' : World} (h : Gr w w' none) : ∀ (s : St) (b off : Nat), StSh w P s b off → StSh w' P s b off
  | .mk _ _ _ _ t e, b, off, hs => by
    simp only [StSh] at hs ⊢
    obtain ⟨h0, ht, he, ⟨x0, x1, x2, x3, c0, c1, c2, c3⟩, at', ct, ae, ce, c4, c5, r4, r5⟩ := hs
    exact ⟨h0, ht, he, ⟨x0, x1, x2, x3, h.cell c0 (by simp), h.cell c1 (by simp), h.cell c2 (by simp), h.cell c3 (by simp)⟩, at', ct, ae, ce, h.cell c4 (by simp), h.cell c5 (by simp), SlSh.gr h t at' r4, SlSh.gr h e ae r5⟩
theorem SlSh.gr {P : Nat → Prop} {w w' : World} (h : Gr w w' none) : ∀ (l : List St) (a : Option Addr), SlSh w P l a → SlSh w' P l a
  | [], _, _ => by simp [SlSh]
  | s :: r, a, hs => by
    simp only [SlSh] at hs ⊢
    obtain ⟨b, off, ha, h1, h2⟩ := hs
    exact ⟨b, off, ha, StSh.gr h s b off h1, SlSh.gr h r _ h2⟩
end
/-- Marks were written: a number that is not negative comes back. -/
def MarkedP (P : Nat → Prop) (w : World) (e : Ending) (w' : World) : Prop := ∃ r : Int, e = .returned (.int .i64 r) ∧ 0 ≤ r ∧ ∃ w1, Gr w w1 none ∧ Wr P w1 w'
set_option maxHeartbeats 1000000 in
theorem markProgram_any (P : Nat → Prop) (p : Pr) (at' ab : Option Addr) (ct cb : Nat) (w : World) (hT : IntsAt w P p.types.length at') (hB : SlSh w P p.body ab) (hf : ∀ a : Addr, P a.block → w.frozen? a = false) (hs : p.size ≤ 1048576) :
    Calls Try.prog 29 #[.agg #[.slice at' p.types.length ct, .slice ab p.body.length cb], .int .i64 1] w (MarkedP P w) := by
  have hsz : p.types.length + St.count p.body ≤ 1048576 := hs
  have hg1 : ∀ o, Gr w (w.alloc o) none := fun o => (Gr.refl _ _).alloc _
  have HF := Lib.hid hf
  clear hf
  go_enter Try.func29, Try.ntmps29
  go_wp2_with fail
  refine (markIntS_any P p.types.length at' ct 1 _ (hT.gr (hg1 _)) (fun a ha => (frozen?_alloc_cells _ _ _ _).trans (HF.out a ha)) (by omega) (by omega) (by omega)).mono ?_
  rintro e w1 ⟨rfl, hw1, -⟩
  have q1 := hw1.slice (a := ⟨w.heap.size, 1, none⟩) (cell?_new2 _ _).2
  go_wp2_with fail
  refine (marks_all P (St.count p.body) p.body ab cb _ _ (Nat.le_refl _) (by omega) (by omega) (SlSh.wr hw1 _ _ (SlSh.gr (hg1 _) _ _ hB)) (fun a ha => (hw1.frz a).trans ((frozen?_alloc_cells _ _ _ _).trans (HF.out a ha)))).mono ?_
  rintro e w2 ⟨rfl, hw2⟩
  go_wp2_with fail
  go_ret
  exact ⟨_, rfl, by omega, _, hg1 _, hw1.trans hw2⟩
end Go.Proofs.Ytjlnfmiekmliaaa

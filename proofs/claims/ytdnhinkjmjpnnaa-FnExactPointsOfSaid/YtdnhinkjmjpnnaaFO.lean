/- Walks of the laws' own helpers on lists of points: equality, marks, looks. -/
import Derived.Test.YtdnhinkjmjpnnaaO

import Derived.Test.YtdnhinkjmjpnnaaM3

import Derived.Test.YtdnhinkjmjpnnaaH1

import Derived.Deep.RegionWith

namespace Go.Proofs.Ytdnhinkjmjpnnaa

open Go.RowKit

set_option maxRecDepth 100000 in
set_option maxHeartbeats 1000000 in
theorem eqPoint_any (p : Pt) (a1 a2 : Option Addr) (c1 c2 : Nat) (w : World) (h1 : InAt w Any (zs p.next) a1) (h2 : InAt w Any (zs p.next) a2) (hl : p.next.length ≤ 1048576) :
    Calls Try.prog 81 #[.agg #[.int .i64 p.op, .int .i64 p.x, .int .i64 p.y, .int .i64 p.n, .slice a1 p.next.length c1], .agg #[.int .i64 p.op, .int .i64 p.x, .int .i64 p.y, .int .i64 p.n, .slice a2 p.next.length c2]] w fun e w' => e = .returned (.bool true) ∧ Gr w w' none := by
  have hg2 : ∀ o o', Gr w ((w.alloc o).alloc o') none := fun _ _ => ((Gr.refl _ _).alloc _).alloc _
  have heq := eqIntS_any (zs p.next) a1 a2 c1 c2
  rw [zs_length] at heq
  have HEQ := Lib.hid heq
  clear heq
  go_enter Try.func81, Try.ntmps81
  go_wp2_with fail
  refine (HEQ.out _ (h1.gr0 (hg2 _ _)) (h2.gr0 (hg2 _ _)) (by omega)).mono ?_
  rintro e w1 ⟨rfl, hg⟩
  go_wp2_with fail
  go_ret
  exact ⟨rfl, (hg2 _ _).trans0 hg⟩
set_option maxRecDepth 100000 in
set_option maxHeartbeats 1000000 in
theorem eqPointS_any (L : List Pt) (a b : Option Addr) (c c' : Nat) (w : World) (ha : PtsAt w L a) (hb : PtsAt w L b) (hl : L.length ≤ 1048576) (hnx : ∀ i (h : i < L.length), L[i].next.length ≤ 1048576) :
    Calls Try.prog 31 #[.slice a L.length c, .slice b L.length c'] w fun e w' => e = .returned (.bool true) ∧ Gr w w' none := by
  go_enter Try.func31, Try.ntmps31
  go_wp2
  go_loopw [5] (fun i wr => ∃ k : Nat, k ≤ L.length ∧ i = .int .i64 k ∧ Gr w wr none) (fun i _ => L.length - (intOf i).toNat)
  case atStart => exact ⟨0, Nat.zero_le _, rfl, Gr.refl _ _⟩
  case round =>
    obtain ⟨k, hk, rfl, hg⟩ := hrel
    by_cases hlt : k < L.length
    · obtain ⟨b1, o1, rfl, an, cn, c0, c1, c2, c3, c4, i1, -⟩ := (ha.gr hg) k hlt
      obtain ⟨b2, o2, rfl, bn, dn, d0, d1, d2, d3, d4, i2, -⟩ := (hb.gr hg) k hlt
      have hm := hnx k hlt
      obtain ⟨q, hq⟩ : ∃ q, L[k] = q := ⟨_, rfl⟩
      rw [hq] at c0 c1 c2 c3 c4 d0 d1 d2 d3 d4 i1 i2 hm
      clear hq
      go_wp2_with fail
      go_region_with (go_at_call 81; refine (eqPoint_any q an bn cn dn _ (by exact i1.gr0 (Gr.refl _ _).drew) (by exact i2.gr0 (Gr.refl _ _).drew) hm).mono ?_; rintro e w' ⟨rfl, hg2⟩)
      all_goals
        go_wp2_with fail
        go_roundw
        case rel => exact ⟨k + 1, by omega, by go_num, hg.drew.trans0 hg2⟩
        case measure => simp [intOf]; omega
    · go_wp2
      go_ret
      exact ⟨rfl, hg⟩

/-- How many marks the first j points take. -/
def smP (ms : Nat → Nat) : Nat → Nat
  | 0 => 0
  | j + 1 => smP ms j + (4 + ms j)
theorem smP_mono (ms : Nat → Nat) {i j : Nat} (h : i ≤ j) : smP ms i ≤ smP ms j := by
  induction j with
  | zero =>
    have e : i = 0 := by omega
    rw [e]; exact Nat.le_refl _
  | succ j ih =>
    by_cases e : i = j + 1
    · subst e; exact Nat.le_refl _
    · have := ih (by omega); simp only [smP]; omega
/-- Points lie there, whatever their numbers; no two of them share a list, and none lies in the row. -/
structure PtSh (w : World) (P : Nat → Prop) (b off n : Nat) (ms : Nat → Nat) (ads : Nat → Option Addr) (cs : Nat → Nat) : Prop where
  row : 0 < n → P b
  ints : ∀ i, i < n → ∃ x0 x1 x2 x3 : Int, w.cell? ⟨b, off + i * 5, none⟩ = some (.int .i64 x0) ∧ w.cell? ⟨b, off + i * 5 + 1, none⟩ = some (.int .i64 x1) ∧ w.cell? ⟨b, off + i * 5 + 2, none⟩ = some (.int .i64 x2) ∧ w.cell? ⟨b, off + i * 5 + 3, none⟩ = some (.int .i64 x3)
  nxt : ∀ i, i < n → w.cell? ⟨b, off + i * 5 + 4, none⟩ = some (.slice (ads i) (ms i) (cs i))
  lst : ∀ i, i < n → IntsAt w (fun g => ob (ads i) = some g) (ms i) (ads i)
  own : ∀ i, i < n → ∀ g, ob (ads i) = some g → P g ∧ g ≠ b
  dis : ∀ i j, i < n → j < n → i ≠ j → ∀ g, ob (ads i) = some g → ob (ads j) ≠ some g
theorem PtSh.wr {w w' : World} {P Q : Nat → Prop} {b off n : Nat} {ms : Nat → Nat} {ads : Nat → Option Addr} {cs : Nat → Nat} (h : PtSh w P b off n ms ads cs) (hW : Wr Q w w') : PtSh w' P b off n ms ads cs :=
  ⟨h.row, fun i hi => by
    obtain ⟨x0, x1, x2, x3, c0, c1, c2, c3⟩ := h.ints i hi
    obtain ⟨y0, d0⟩ := hW.int c0
    obtain ⟨y1, d1⟩ := hW.int c1
    obtain ⟨y2, d2⟩ := hW.int c2
    obtain ⟨y3, d3⟩ := hW.int c3
    exact ⟨y0, y1, y2, y3, d0, d1, d2, d3⟩, fun i hi => hW.slice (h.nxt i hi), fun i hi => (h.lst i hi).wr hW, h.own, h.dis⟩
theorem PtSh.gr {w w' : World} {P : Nat → Prop} {b off n : Nat} {ms : Nat → Nat} {ads : Nat → Option Addr} {cs : Nat → Nat} (h : PtSh w P b off n ms ads cs) (hg : Gr w w' none) : PtSh w' P b off n ms ads cs :=
  ⟨h.row, fun i hi => by
    obtain ⟨x0, x1, x2, x3, c0, c1, c2, c3⟩ := h.ints i hi
    exact ⟨x0, x1, x2, x3, hg.cell c0 (by simp), hg.cell c1 (by simp), hg.cell c2 (by simp), hg.cell c3 (by simp)⟩, fun i hi => hg.cell (h.nxt i hi) (by simp), fun i hi => (h.lst i hi).gr hg, h.own, h.dis⟩
/-- The marks from k on lie in the first n points. -/
structure PtMk (w : World) (b off n : Nat) (ms : Nat → Nat) (ads : Nat → Option Addr) (cs : Nat → Nat) (k : Int) : Prop where
  i0 : ∀ i, i < n → w.cell? ⟨b, off + i * 5, none⟩ = some (.int .i64 (k + (smP ms i : Nat)))
  i1 : ∀ i, i < n → w.cell? ⟨b, off + i * 5 + 1, none⟩ = some (.int .i64 (k + (smP ms i : Nat) + 1))
  i2 : ∀ i, i < n → w.cell? ⟨b, off + i * 5 + 2, none⟩ = some (.int .i64 (k + (smP ms i : Nat) + 1 + 1))
  i3 : ∀ i, i < n → w.cell? ⟨b, off + i * 5 + 3, none⟩ = some (.int .i64 (k + (smP ms i : Nat) + 1 + 1 + 1))
  nxt : ∀ i, i < n → w.cell? ⟨b, off + i * 5 + 4, none⟩ = some (.slice (ads i) (ms i) (cs i))
  lst : ∀ i, i < n → InAt w (fun g _ => ob (ads i) = some g) (upFrom (k + (smP ms i : Nat) + 1 + 1 + 1 + 1) (ms i)) (ads i)
theorem PtMk.gr {w w' : World} {b off n : Nat} {ms : Nat → Nat} {ads : Nat → Option Addr} {cs : Nat → Nat} {k : Int} (h : PtMk w b off n ms ads cs k) (hg : Gr w w' none) : PtMk w' b off n ms ads cs k :=
  ⟨fun i hi => hg.cell (h.i0 i hi) (by simp), fun i hi => hg.cell (h.i1 i hi) (by simp), fun i hi => hg.cell (h.i2 i hi) (by simp), fun i hi => hg.cell (h.i3 i hi) (by simp), fun i hi => hg.cell (h.nxt i hi) (by simp), fun i hi => (h.lst i hi).gr0 hg⟩
theorem set4_off {w : World} {b o : Nat} {k : Int} {x : Addr} (h : x.block = b → x.spot = none → x.off < o ∨ o + 4 ≤ x.off) : (set4 w b o k).cell? x = w.cell? x := by
  unfold set4
  obtain ⟨xb, xo, xs⟩ := x
  simp only at h
  rw [World.cell?_setCell_other _ _ _ _ (by intro e; cases e; have := h rfl rfl; omega)]
  rw [World.cell?_setCell_other _ _ _ _ (by intro e; cases e; have := h rfl rfl; omega)]
  rw [World.cell?_setCell_other _ _ _ _ (by intro e; cases e; have := h rfl rfl; omega)]
  rw [World.cell?_setCell_other _ _ _ _ (by intro e; cases e; have := h rfl rfl; omega)]
theorem set4_at {w : World} {b o : Nat} {k : Int} {x0 x1 x2 x3 : Int} (c0 : w.cell? ⟨b, o, none⟩ = some (.int .i64 x0)) (c1 : w.cell? ⟨b, o + 1, none⟩ = some (.int .i64 x1)) (c2 : w.cell? ⟨b, o + 2, none⟩ = some (.int .i64 x2)) (c3 : w.cell? ⟨b, o + 3, none⟩ = some (.int .i64 x3)) :
    (set4 w b o k).cell? ⟨b, o, none⟩ = some (.int .i64 k) ∧ (set4 w b o k).cell? ⟨b, o + 1, none⟩ = some (.int .i64 (k + 1)) ∧ (set4 w b o k).cell? ⟨b, o + 2, none⟩ = some (.int .i64 (k + 1 + 1)) ∧ (set4 w b o k).cell? ⟨b, o + 3, none⟩ = some (.int .i64 (k + 1 + 1 + 1)) := by
  unfold set4
  refine ⟨?_, ?_, ?_, ?_⟩
  · rw [World.cell?_setCell_other _ _ _ _ (by simp), World.cell?_setCell_other _ _ _ _ (by simp), World.cell?_setCell_other _ _ _ _ (by simp)]
    exact World.cell?_setCell_same _ _ _ c0
  · rw [World.cell?_setCell_other _ _ _ _ (by simp), World.cell?_setCell_other _ _ _ _ (by simp)]
    exact World.cell?_setCell_same _ _ _ ((World.cell?_setCell_other _ _ _ _ (by simp)).trans c1)
  · rw [World.cell?_setCell_other _ _ _ _ (by simp)]
    exact World.cell?_setCell_same _ _ _ ((World.cell?_setCell_other _ _ _ _ (by simp)).trans ((World.cell?_setCell_other _ _ _ _ (by simp)).trans c2))
  · exact World.cell?_setCell_same _ _ _ ((World.cell?_setCell_other _ _ _ _ (by simp)).trans ((World.cell?_setCell_other _ _ _ _ (by simp)).trans ((World.cell?_setCell_other _ _ _ _ (by simp)).trans c3)))
/-- One point more is marked. -/
theorem PtMk.step {w w2 : World} {P : Nat → Prop} {b off n j : Nat} {ms : Nat → Nat} {ads : Nat → Option Addr} {cs : Nat → Nat} {k : Int} (h : PtMk w b off j ms ads cs k) (hS : PtSh w P b off n ms ads cs) (hj : j < n)
    (hW : Wr (fun g => ob (ads j) = some g) (set4 w b (off + j * 5) (k + (smP ms j : Nat))) w2) (hI : InAt w2 (fun g _ => ob (ads j) = some g) (upFrom (k + (smP ms j : Nat) + 1 + 1 + 1 + 1) (ms j)) (ads j)) : PtMk w2 b off (j + 1) ms ads cs k := by
  have hb : ¬ ob (ads j) = some b := fun e => (hS.own j hj b e).2 rfl
  obtain ⟨x0, x1, x2, x3, c0, c1, c2, c3⟩ := hS.ints j hj
  obtain ⟨s0, s1, s2, s3⟩ := set4_at (k := k + (smP ms j : Nat)) c0 c1 c2 c3
  have hk : ∀ i t v, i < j → t < 5 → w.cell? ⟨b, off + i * 5 + t, none⟩ = some v → w2.cell? ⟨b, off + i * 5 + t, none⟩ = some v := fun i t v hi ht hc =>
    hW.cell ((set4_off (by intro _ _; left; show off + i * 5 + t < off + j * 5; omega)).trans hc) hb
  refine ⟨fun i hi => ?_, fun i hi => ?_, fun i hi => ?_, fun i hi => ?_, fun i hi => ?_, fun i hi => ?_⟩
  · by_cases e : i = j
    · subst e; exact hW.cell s0 hb
    · exact hk i 0 _ (by omega) (by omega) (h.i0 i (by omega))
  · by_cases e : i = j
    · subst e; exact hW.cell s1 hb
    · exact hk i 1 _ (by omega) (by omega) (h.i1 i (by omega))
  · by_cases e : i = j
    · subst e; exact hW.cell s2 hb
    · exact hk i 2 _ (by omega) (by omega) (h.i2 i (by omega))
  · by_cases e : i = j
    · subst e; exact hW.cell s3 hb
    · exact hk i 3 _ (by omega) (by omega) (h.i3 i (by omega))
  · by_cases e : i = j
    · subst e
      exact hW.cell ((set4_off (by intro _ _; right; show off + i * 5 + 4 ≤ off + i * 5 + 4; omega)).trans (hS.nxt i hj)) hb
    · exact hk i 4 _ (by omega) (by omega) (h.nxt i (by omega))
  · by_cases e : i = j
    · subst e; exact hI
    · refine InAt.mono (fun _ _ h => h) (fun g o v hg hc => ?_) _ _ (h.lst i (by omega))
      refine hW.cell ((set4_off ?_).trans hc) (hS.dis i j (by omega) hj e g hg)
      intro e' _
      exact absurd e' (hS.own i (by omega) g hg).2
set_option maxRecDepth 100000 in
set_option maxHeartbeats 2000000 in
theorem markPointS_any (P : Nat → Prop) (b off n : Nat) (ms : Nat → Nat) (ads : Nat → Option Addr) (cs : Nat → Nat) (a : Option Addr) (c : Nat) (k : Int) (w : World) (ha : 0 < n → a = some ⟨b, off, none⟩) (h : PtSh w P b off n ms ads cs) (hf : ∀ a : Addr, P a.block → w.frozen? a = false) (hn : n ≤ 1048576) (hs : smP ms n ≤ 1048576) (hk0 : 0 ≤ k) (hk : k ≤ 1073741824) :
    Calls Try.prog 32 #[.slice a n c, .int .i64 k] w fun e w' => e = .returned (.int .i64 (k + (smP ms n : Nat))) ∧ Wr P w w' ∧ PtMk w' b off n ms ads cs k := by
  have HF := Lib.hid hf
  clear hf
  have HMS := Lib.hid (fun (i j : Nat) (h : i ≤ j) => smP_mono ms h)
  go_enter Try.func32, Try.ntmps32
  go_wp2
  go_loopw [1, 5] (fun k' i wr => ∃ j : Nat, j ≤ n ∧ i = .int .i64 j ∧ k' = .int .i64 (k + (smP ms j : Nat)) ∧ Wr P w wr ∧ PtMk wr b off j ms ads cs k) (fun _ i _ => n - (intOf i).toNat)
  case atStart => exact ⟨0, Nat.zero_le _, rfl, by simp [smP], Wr.refl _ _, ⟨fun i hi => absurd hi (by omega), fun i hi => absurd hi (by omega), fun i hi => absurd hi (by omega), fun i hi => absurd hi (by omega), fun i hi => absurd hi (by omega), fun i hi => absurd hi (by omega)⟩⟩
  case round =>
    obtain ⟨j, hj, rfl, rfl, hW, hM⟩ := hrel
    by_cases hlt : j < n
    · have hSH := h.wr hW
      obtain rfl := ha (by omega)
      have hp := h.row (by omega)
      obtain ⟨x0, x1, x2, x3, c0, c1, c2, c3⟩ := hSH.ints j hlt
      have c4 := hSH.nxt j hlt
      have h4 := wr4 (k + (smP ms j : Nat)) hp c0 c1 c2 c3
      have f0 : wr.frozen? ⟨b, off + j * 5, none⟩ = false := by rw [hW.frz]; exact HF.out ⟨b, _, none⟩ hp
      have f1 : wr.frozen? ⟨b, off + j * 5 + 1, none⟩ = false := by rw [hW.frz]; exact HF.out ⟨b, _, none⟩ hp
      have f2 : wr.frozen? ⟨b, off + j * 5 + 2, none⟩ = false := by rw [hW.frz]; exact HF.out ⟨b, _, none⟩ hp
      have f3 : wr.frozen? ⟨b, off + j * 5 + 3, none⟩ = false := by rw [hW.frz]; exact HF.out ⟨b, _, none⟩ hp
      have hle := HMS.out (j + 1) n (by omega)
      simp only [smP] at hle
      have HST := Lib.hid (fun w2 => hM.step hSH hlt (w2 := w2))
      have HSH := Lib.hid hSH
      have HOW := Lib.hid (fun g e => (hSH.own j hlt g e).1)
      have hW4 := Lib.hid (hW.trans h4)
      have HL := Lib.hid ((hSH.lst j hlt).wr h4)
      have HSS := Lib.hid (show smP ms (j + 1) = smP ms j + (4 + ms j) from rfl)
      obtain ⟨q, hq⟩ : ∃ q, smP ms j = q := ⟨_, rfl⟩
      obtain ⟨m, hm⟩ : ∃ m, ms j = m := ⟨_, rfl⟩
      have HQ := Lib.hid hq
      have HM := Lib.hid hm
      simp only [hq, hm] at hle c4 ⊢
      clear hM hSH hq hm h4
      go_wp2_with fail
      refine (markIntS_any (fun g => ob (ads j) = some g) m (ads j) (cs j) (k + (q : Nat) + 1 + 1 + 1 + 1) _ ?_ ?_ (by omega) (by omega) (by omega)).mono ?_
      · have := HL.out; rw [HM.out, HQ.out] at this; exact this
      · intro x hx
        have hfx := (hW4.out.frz x).trans (HF.out x (HOW.out _ hx))
        rw [HQ.out] at hfx
        exact hfx
      rintro e w2 ⟨rfl, hw2, hI⟩
      have HW2 := Lib.hid hw2
      have HI := Lib.hid hI
      clear hw2 hI c0 c1 c2 c3 c4 f0 f1 f2 f3
      go_wp2_with fail
      go_roundw
      case rel =>
        refine ⟨j + 1, by omega, by go_num, by rw [HSS.out, HQ.out, HM.out]; go_num, ?_, ?_⟩
        · have := HW2.out
          exact hW4.out.trans (by rw [HQ.out]; exact this.mono HOW.out)
        · exact HST.out w2 (by rw [HQ.out]; exact HW2.out) (by rw [HQ.out, HM.out]; exact HI.out)
      case measure => simp [intOf]; omega
    · obtain rfl : j = n := by omega
      go_wp2
      go_ret
      exact ⟨rfl, hW, hM⟩
set_option maxRecDepth 100000 in
set_option maxHeartbeats 2000000 in
theorem heldPointS_any (b off n : Nat) (ms : Nat → Nat) (ads : Nat → Option Addr) (cs : Nat → Nat) (a : Option Addr) (c : Nat) (k : Int) (w : World) (ha : 0 < n → a = some ⟨b, off, none⟩) (h : PtMk w b off n ms ads cs k) (hn : n ≤ 1048576) (hs : smP ms n ≤ 1048576) (hk0 : 0 ≤ k) (hk : k ≤ 1073741824) :
    Calls Try.prog 33 #[.slice a n c, .int .i64 k] w fun e w' => e = .returned (.int .i64 (k + (smP ms n : Nat))) ∧ w = w' := by
  have HMS := Lib.hid (fun (i j : Nat) (h : i ≤ j) => smP_mono ms h)
  have HH := Lib.hid h
  clear h
  go_enter Try.func33, Try.ntmps33
  go_wp2
  go_loop [1, 5] (fun k' i => ∃ j : Nat, j ≤ n ∧ i = .int .i64 j ∧ k' = .int .i64 (k + (smP ms j : Nat))) (fun _ i => n - (intOf i).toNat)
  case atStart => exact ⟨0, Nat.zero_le _, rfl, by simp [smP]⟩
  case round =>
    obtain ⟨j, hj, rfl, rfl⟩ := hrel
    by_cases hlt : j < n
    · obtain rfl := ha (by omega)
      have c0 := HH.out.i0 j hlt
      have c1 := HH.out.i1 j hlt
      have c2 := HH.out.i2 j hlt
      have c3 := HH.out.i3 j hlt
      have c4 := HH.out.nxt j hlt
      have hI := (HH.out.lst j hlt).any
      have hle := HMS.out (j + 1) n (by omega)
      simp only [smP] at hle
      have HSS := Lib.hid (show smP ms (j + 1) = smP ms j + (4 + ms j) from rfl)
      obtain ⟨q, hq⟩ : ∃ q, smP ms j = q := ⟨_, rfl⟩
      obtain ⟨m, hm⟩ : ∃ m, ms j = m := ⟨_, rfl⟩
      have HQ := Lib.hid hq
      have HM := Lib.hid hm
      simp only [hq, hm] at hle c0 c1 c2 c3 c4 hI ⊢
      have HI := Lib.hid hI
      clear hq hm hI
      go_wp2_with fail
      refine (heldIntS_any m (ads j) (cs j) (k + (q : Nat) + 1 + 1 + 1 + 1) _ HI.out (by omega) (by omega) (by omega)).mono ?_
      rintro e w2 ⟨rfl, rfl⟩
      go_wp2_with fail
      go_round
      case rel => exact ⟨j + 1, by omega, by go_num, by rw [HSS.out, HQ.out, HM.out]; go_num⟩
      case measure => simp [intOf]; omega
    · obtain rfl : j = n := by omega
      go_wp2
      go_ret
      exact ⟨rfl, rfl⟩
end Go.Proofs.Ytdnhinkjmjpnnaa

/- What has a value: sets forward: plain tables; walks of valued and forward of the program. -/
import Derived.Test.YtadlnjglpigjmaaDI

import Derived.Deep.LoopGhost

import Derived.Deep.RegionWith

namespace Go.Proofs.Ytadlnjglpigjmaa

open Go.RowKit

/-- What a point takes and what it sets. -/
def tkL (T : List Int) (L : List Pt) (i v : Nat) : Bool := takesB T (ptAt L i).op (ptAt L i).x (ptAt L i).y v
def stL (L : List Pt) (i v : Nat) : Bool := setsB (ptAt L i).op (ptAt L i).x v
/-- What can have a value behind a point, given what can before it; what can have none. -/
def mayA (T : List Int) (L : List Pt) (i : Nat) (Y : Nat → Prop) (v : Nat) : Prop := (Y v ∧ tkL T L i v = false) ∨ stL L i v = true
def unA (T : List Int) (L : List Pt) (i : Nat) (Y : Nat → Prop) (v : Nat) : Prop := v < T.length ∧ (Y v ∨ tkL T L i v = true) ∧ stL L i v = false
theorem mayA_mono (T : List Int) (L : List Pt) : MonoA (mayA T L) := by
  rintro i Y Z h v (⟨h1, h2⟩ | h1)
  · exact .inl ⟨h v h1, h2⟩
  · exact .inr h1
theorem unA_mono (T : List Int) (L : List Pt) : MonoA (unA T L) := by
  rintro i Y Z h v ⟨h0, h1, h2⟩
  exact ⟨h0, h1.imp (h v) id, h2⟩
def noneI (_ : Nat) : Prop := False
def unI (N : Nat) (g : Nat → Bool) (v : Nat) : Prop := v < N ∧ g v = false
/-- Words as tables of what is not in them. -/
def tbN (N : Nat) (O : Nat → Nat) : Nat → Nat → Bool := fun i v => decide (v < N) && !(O i).testBit v
theorem tb_or (O : Nat → Nat) (k S : Nat) : tb (updW O k (O k ||| S)) = mrg (tb O) k (fun v => S.testBit v) := by
  funext i v
  unfold tb updW mrg
  split
  · rename_i e; subst e; rw [Nat.testBit_or]
  · rfl
theorem tbN_and (N : Nat) (O : Nat → Nat) (k S : Nat) : tbN N (updW O k (O k &&& S)) = mrg (tbN N O) k (fun v => decide (v < N) && !S.testBit v) := by
  funext i v
  unfold tbN updW mrg
  split
  · rename_i e; subst e; rw [Nat.testBit_and]; show (decide (v < N) && !((O i).testBit v && S.testBit v)) = ((decide (v < N) && !(O i).testBit v) || (decide (v < N) && !S.testBit v)); cases decide (v < N) <;> cases (O i).testBit v <;> cases S.testBit v <;> rfl
  · rfl
set_option maxRecDepth 100000 in
set_option maxHeartbeats 2000000 in
theorem valued_any (p : Pr) (gb i S : Nat) (w : World) (hGA : GraphAt w p gb) (hv : validP p = true) (hi : i < (pts p).length) (hS : S < 2 ^ 6) :
    Calls Try.prog 99 #[.pointer (some ⟨gb, 0, none⟩), .int .i64 i, .int .i64 S] w (GotW (fun v => (S.testBit v && !tkL p.types (pts p) i v) || stL (pts p) i v) w) := by
  have hp : p.types.length ≤ 6 := valid_types hv
  have hst := set_in hv hi
  have HGA := Lib.hid hGA
  obtain ⟨L, a3, n3, a4, n4, al, cl, hL, d0, d1, d2, hr1, hr2, hr3⟩ := hGA
  rw [← ptAt_get hi, ← hL] at hst
  rw [← hL] at hi ⊢
  obtain ⟨b, po, rfl, an, cn, c0, c1, c2, c3, c4, -, -⟩ := hr3 i hi
  obtain ⟨q, eq⟩ : ∃ q, L[i] = q := ⟨_, rfl⟩
  rw [eq] at c0 c1 c2 c3 c4
  have hpa : ptAt L i = q := (ptAt_get hi).trans eq
  rw [hpa] at hst
  have HPA := Lib.hid hpa
  have HS1 := Lib.hid (show setOf q.op q.x < 6 by omega)
  have HS0 := Lib.hid hst.1
  obtain ⟨nn, hnn⟩ : ∃ nn, q.next.length = nn := ⟨_, rfl⟩
  rw [hnn] at c4
  clear hL d0 d1 hr1 hr2 hr3 eq hpa hv hst hnn
  go_enter Try.func99, Try.ntmps99
  go_upto_region 2 with fail
  have hGB : Gr w (w.alloc (.cells #[.int .i64 q.op, .int .i64 q.x, .int .i64 q.y, .int .i64 q.n, .slice an nn cn] 67)) none := (Gr.refl _ _).alloc _
  have hE := heap1_0 w (.cells #[.int .i64 q.op, .int .i64 q.x, .int .i64 q.y, .int .i64 q.n, .slice an nn cn] 67)
  obtain ⟨wB, hwB⟩ : ∃ wB, wB = w.alloc (.cells #[.int .i64 q.op, .int .i64 q.x, .int .i64 q.y, .int .i64 q.n, .slice an nn cn] 67) := ⟨_, rfl⟩
  rw [← hwB] at hGB hE ⊢
  have b0 : wB.cell? ⟨w.heap.size, 0, none⟩ = some (.int .i64 q.op) := cell_of_row _ _ _ _ _ _ hE
  have b1 : wB.cell? ⟨w.heap.size, 1, none⟩ = some (.int .i64 q.x) := cell_of_row _ _ _ _ _ _ hE
  have b2 : wB.cell? ⟨w.heap.size, 2, none⟩ = some (.int .i64 q.y) := cell_of_row _ _ _ _ _ _ hE
  have b3 : wB.cell? ⟨w.heap.size, 3, none⟩ = some (.int .i64 q.n) := cell_of_row _ _ _ _ _ _ hE
  have b4 : wB.cell? ⟨w.heap.size, 4, none⟩ = some (.slice an nn cn) := cell_of_row _ _ _ _ _ _ hE
  have HGB := Lib.hid hGB
  clear hwB hE hGB c0 c1 c2 c3 c4 d2
  go_cut [6] (fun s wx => ∃ W, s = .int .i64 (W : Nat) ∧ (∀ v, W.testBit v = ((S.testBit v && !tkL p.types L i v) || stL L i v)) ∧ W < 2 ^ 6 ∧ Gr wB wx none)
  case first =>
    go_region_with (first | (go_at_call 109; refine (taken_any p gb q.op q.x q.y q.n (.slice an nn cn) _ (by exact HGA.out.gr HGB.out.drew) hp).mono ?_; rintro e w1 ⟨W1, rfl, hW1, hl1, hg1⟩; have HW1 := Lib.hid hW1; clear hW1; have y0 := hg1.cell b0 (by simp); have y1 := hg1.cell b1 (by simp); have y2 := hg1.cell b2 (by simp); have y3 := hg1.cell b3 (by simp); have y4 := hg1.cell b4 (by simp); have HG1 := Lib.hid (show Gr wB w1 none from (Gr.refl _ _).drew.trans0 hg1); clear hg1) | (go_at_call 116; refine (setBit_any q.op q.x q.y q.n (.slice an nn cn) _ HS1.out HS0.out).mono ?_; rintro e w3 ⟨W3, rfl, hW3, hl3, hg3⟩; have HW3 := Lib.hid hW3; clear hW3; have HG3 := Lib.hid (show Gr wB w3 none from HG1.out.trans0 hg3); clear hg3; have hn := i64_andNot (a := S) (b := W1) (by omega); have hnl : ndiff S W1 < 2 ^ 6 := ndiff_lt hS; have ho := i64_or (a := ndiff S W1) (b := W3) (by omega) (by omega); have HOL := Lib.hid (show ndiff S W1 ||| W3 < 2 ^ 6 from Nat.or_lt_two_pow hnl hl3); clear hl1 hl3 hnl))
    all_goals
      go_wp2_with fail
      go_meet
      exact ⟨_, rfl, fun v => by rw [Nat.testBit_or, ndiff_bit, HW1.out, HW3.out]; unfold tkL stL; rw [HPA.out], HOL.out, HG3.out⟩
  case rest =>
    rename World => wx
    obtain ⟨W, rfl, hWb, hW6, hgx⟩ := hcut
    have HWB := Lib.hid hWb
    clear hWb b0 b1 b2 b3 b4
    go_wp2_with fail
    go_ret
    exact ⟨W, rfl, HWB.out, hW6, HGB.out.trans0 hgx⟩
end Go.Proofs.Ytadlnjglpigjmaa
